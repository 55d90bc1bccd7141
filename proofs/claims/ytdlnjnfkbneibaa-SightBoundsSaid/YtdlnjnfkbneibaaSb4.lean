/- Part 4 of the proof that SightBounds returns true for every net and every pillar. No condition. -/
import Derived.Test.YtdlnjnfkbneibaaSb3
set_option linter.unusedVariables false
set_option linter.unusedSimpArgs false
open Go.Vm
open Clip (Pn Sg Nt Bd Rt Sp Co Pl NtOk chk chk_ok bnds bnds_sz bnds_len bnds_sq offL offS offS_bd offS_len allOf mvB mvS mvL mvS_len mvB_pts regS BdSz pts)
namespace Go.Proofs.Ytdlnjnfkbneibaa
set_option maxRecDepth 20000
set_option maxHeartbeats 4000000

def sgN : Sg := ⟨0, 0, ⟨0, 0⟩, ⟨0, 0⟩⟩
def ofB (N : Nt) (p i : Int) : Bool := decide ((N.ss.getD i.toNat sgN).f = p ∨ (N.ss.getD i.toNat sgN).t = p)
theorem ofB_at {N : Nt} {p i : Int} {s : Sg} (h : N.ss[i.toNat]? = some s) : ofB N p i = decide (s.f = p ∨ s.t = p) := by unfold ofB; rw [List.getD_eq_getElem?_getD, h]; rfl
theorem offL_bd {N : Nt} {i : Int} (h : i ∈ offL N) : 0 ≤ i ∧ i < N.ss.length := by
  have := offS_bd N.ps N.ss 0 i h; omega
theorem offL_len (N : Nt) : (offL N).length ≤ N.ss.length := offS_len N.ps N.ss 0
theorem vc_Mv1 (N : Nt) (p i : Int) (h : Hp) (hi : 0 ≤ i ∧ i < N.ss.length) : VC Try.prog 73 ([I i] ++ D.vs [.pt [.pt (encDk N p)], .pt (encN N)]) h (B (ofB N p i)) h := by
  have hk : N.ss[i.toNat]? = some (N.ss[i.toNat]'(by omega)) := List.getElem?_eq_getElem _
  rw [ofB_at hk]
  generalize N.ss[i.toNat]'(by omega) = s at hk
  have c := fun h => vc_of N p s h
  generalize decide (s.f = p ∨ s.t = p) = E at c
  refine VC.body Try.func73 rfl Try.ntmps73 Try.call73 (h.grows_refl) rfl ?_; conv => whnf
  repeat' (first | ((first | refine zs1 ?_ | refine zs2 ?_ | refine zs3 ?_ | refine zs4 ?_ | refine zs5 ?_); conv => whnf) | ((first | apply zi1 | apply zi2 | apply zi3 | apply zi4 | apply zi5) <;> intro _ <;> conv => whnf))
  refine zs6 [] ?_
  conv => whnf
  repeat' (first | ((first | refine zs1 ?_ | refine zs2 ?_ | refine zs3 ?_ | refine zs4 ?_ | refine zs5 ?_); conv => whnf) | ((first | apply zi1 | apply zi2 | apply zi3 | apply zi4 | apply zi5) <;> intro _ <;> conv => whnf) | (refine VAny.ix encSg_len i.toNat (by omega) rfl hk ?_; conv => whnf) | (refine VCall.intro (c _) ?_; conv => whnf))
  exact VOut.same rfl
def mvE (N : Nt) : Int := if chk N ≠ 0 then chk N else if offL N = [] then 10 else 0
theorem mvE_ok {N : Nt} : mvE N = 0 ↔ NtOk N ∧ offL N ≠ [] := by
  unfold mvE
  split
  · rename_i h; exact ⟨fun e => absurd e h, fun h2 => absurd (chk_ok.2 h2.1) h⟩
  · rename_i h
    have := chk_ok.1 (Classical.not_not.1 h)
    split
    · rename_i h2; exact ⟨fun e => by omega, fun h3 => absurd h2 h3.2⟩
    · rename_i h2; exact ⟨fun _ => ⟨this, h2⟩, fun _ => rfl⟩
theorem vc_Movers_no (N : Nt) (h : Hp) (hn : N.ps.length ≤ 4000000) (hm : N.ss.length ≤ 4000000) (h0 : mvE N ≠ 0) : VC Try.prog 20 [vN N] h (.tuple [.nilslice, I (mvE N)]) h := by
  by_cases hc : chk N = 0
  · have o := chk_ok.1 hc
    have c := fun h => vc_Off_ok N h o
    have he : offL N = [] := Classical.byContradiction fun e => h0 (mvE_ok.2 ⟨o, e⟩)
    have e : mvE N = 10 := by unfold mvE; rw [if_neg (by omega), if_pos he]
    rw [he] at c
    rw [e]
    refine VC.body Try.func20 rfl Try.ntmps20 Try.call20 (h.grows_refl) rfl ?_; conv => whnf
    repeat' (first | ((first | refine zs1 ?_ | refine zs2 ?_ | refine zs3 ?_ | refine zs4 ?_ | refine zs5 ?_ | refine zs6 [] ?_); conv => whnf) | ((first | apply zi1 | apply zi2 | apply zi3 | apply zi4 | apply zi5) <;> intro _ <;> conv => whnf) | (refine VCall.intro (c _) ?_; conv => whnf))
    · exact VOut.same rfl
  · have c := fun h => vc_Off_no N h hn hm hc
    have e : mvE N = chk N := by unfold mvE; rw [if_pos hc]
    rw [e]
    generalize chk N = E at c hc
    refine VC.body Try.func20 rfl Try.ntmps20 Try.call20 (h.grows_refl) rfl ?_; conv => whnf
    repeat' (first | ((first | refine zs1 ?_ | refine zs2 ?_ | refine zs3 ?_ | refine zs4 ?_ | refine zs5 ?_ | refine zs6 [] ?_); conv => whnf) | ((first | apply zi1 | apply zi2 | apply zi3 | apply zi4 | apply zi5) <;> intro _ <;> conv => whnf) | (refine VCall.intro (c _) ?_; conv => whnf))
    · exact VOut.same rfl
    · exfalso; omega
theorem mvS_at {N : Nt} {k n : Nat} (h : k < n) : mvS N k (n - k) = if mvB N k = true then (k : Int) :: mvS N ((k + 1 : Nat) : Int) (n - (k + 1)) else mvS N ((k + 1 : Nat) : Int) (n - (k + 1)) := by
  obtain ⟨m, hm⟩ : ∃ m, n - k = m + 1 := ⟨n - k - 1, by omega⟩
  have : n - (k + 1) = m := by omega
  rw [hm, this, mvS]; rfl
theorem vc_Movers_ok (N : Nt) (h : Hp) (o : NtOk N) (h0 : offL N ≠ []) : VC Try.prog 20 [vN N] h (.tuple [ints (mvL N), I 0]) h := by
  have hn := o.n
  have hm := o.m
  have c := fun h => vc_Off_ok N h o
  have hA := fun p h => vc_allI2 (offL N) (ofB N p) 73 [.pt (encDk N p)] (encN N) (by have := offL_len N; omega) (fun i hi h => vc_Mv1 N p i h (offL_bd hi)) h
  have hA2 : ∀ p, (offL N).all (ofB N p) = allOf N p := fun p => rfl
  simp only [hA2] at hA
  obtain ⟨M, hM⟩ : ∃ M, M = mvL N := ⟨_, rfl⟩
  rw [← hM]
  have hM : M = [] ++ mvS N (0 : Nat) (N.ps.length - 0) := hM
  have hO : 0 < (offL N).length := List.length_pos_iff.2 h0
  generalize offL N = O at *
  refine VC.body Try.func20 rfl Try.ntmps20 Try.call20 (h.grows_refl) rfl ?_; conv => whnf
  repeat' (first | ((first | refine zs1 ?_ | refine zs2 ?_ | refine zs3 ?_ | refine zs4 ?_ | refine zs5 ?_ | refine zs6 [] ?_); conv => whnf) | ((first | apply zi1 | apply zi2 | apply zi3 | apply zi4 | apply zi5) <;> intro _ <;> conv => whnf) | (refine VCall.intro (c _) ?_; conv => whnf))
  · exfalso; omega
  refine VCode.lp (fun y : Nat × List Int => [(1, .fp (encN N)), (2, .nilslice), (3, I 0), (4, ints O), (6, .gl (.loc 0) 1 y.2.length), (24, I N.ps.length), (25, I y.1)]) (fun y => [.flat true (y.2.flatMap encI)]) (fun y => y.1 ≤ N.ps.length ∧ y.2.length ≤ y.1 ∧ M = y.2 ++ mvS N y.1 (N.ps.length - y.1)) (fun y => N.ps.length - y.1) (0, []) ⟨Nat.zero_le _, Nat.zero_le _, hM⟩ ?_ ?_
  · conv => whnf
    refine Retell.turn ⟨[1], 1, [(0, encN N)], []⟩ (TurnOk.mk' _ _ [(0, encN N)] [] (OutOk.lift _) rfl (by decide) zb zf trivial rfl) zv zm
  · clear hM
    rintro ⟨k, w⟩ ⟨h1, h2, h3⟩
    dsimp only at h1 h2 h3
    conv => whnf
    refine VIte.dec (fun h5 => ?_) (fun h5 => ?_)
    · dsimp only at h5
      rw [mvS_at (by omega)] at h3
      have cB := fun h => vc_bounds N k h o
      have cR := fun h => vc_region (bnds N k) h (by have := bnds_len o k; omega) (bnds_sz o k)
      have cA := hA k
      have eB : mvB N k = (allOf N k && !decide (regS (bnds N k) = [])) := rfl
      rw [eB] at h3
      generalize bnds N k = bs at *
      generalize regS bs = S at *
      generalize allOf N k = A at *
      conv => whnf
      repeat' (first | ((first | refine zs1 ?_ | refine zs2 ?_ | refine zs3 ?_ | refine zs4 ?_ | refine zs5 ?_); conv => whnf) | ((first | apply zi1 | apply zi2 | apply zi3 | apply zi4 | apply zi5) <;> intro _ <;> conv => whnf))
      refine VCall.intro (VC.lend1 [dints O, .func (.func 73) [] [.pt [.pt (encDk N k)], .pt (encN N)]] [(1, encDk N k), (2, [.pt (encDk N k)])] [] zr trivial zv (cA Hp.bare)) ?_
      cases A with
      | false =>
        rw [Bool.false_and, if_neg (by decide)] at h3
        conv => whnf
        repeat' (first | ((first | refine zs1 ?_ | refine zs2 ?_ | refine zs3 ?_ | refine zs4 ?_ | refine zs5 ?_); conv => whnf) | ((first | apply zi1 | apply zi2 | apply zi3 | apply zi4 | apply zi5) <;> intro _ <;> conv => whnf))
        refine LEnd.intro (k + 1, w) ⟨by dsimp only; omega, by dsimp only; omega, h3⟩ (by dsimp only; omega) ?_
        conv => whnf
        refine Retell.turn ⟨[0], 3, [], []⟩ (TurnOk.mk' _ _ [] [] (OutOk.lift _) rfl (by decide) zb trivial trivial rfl) zv zm
      | true =>
        rw [Bool.true_and] at h3
        conv => whnf
        repeat' (first | ((first | refine zs1 ?_ | refine zs2 ?_ | refine zs3 ?_ | refine zs4 ?_ | refine zs5 ?_); conv => whnf) | ((first | apply zi1 | apply zi2 | apply zi3 | apply zi4 | apply zi5) <;> intro _ <;> conv => whnf))
        refine VCall.intro (VC.give (args' := [.fp (encDk N k)]) (loc' := [.flat true (w.flatMap encI), .dead, .dead]) [(1, encDk N k)] [] (OutOk.lift _) zb zf (by exact FmAll.nil) rfl zv (cB _)) ?_
        conv => whnf
        repeat' (first | ((first | refine zs1 ?_ | refine zs2 ?_ | refine zs3 ?_ | refine zs4 ?_ | refine zs5 ?_); conv => whnf) | ((first | apply zi1 | apply zi2 | apply zi3 | apply zi4 | apply zi5) <;> intro _ <;> conv => whnf) | (refine VCall.intro (cR _) ?_; conv => whnf))
        · rename_i hS
          have hS2 : ¬ S = [] := fun e => by subst e; dsimp only [List.length_nil] at hS; omega
          rw [decide_eq_false hS2, Bool.not_false, if_pos rfl] at h3
          refine VMem.app1 (l := w) (k : Int) encI_len rfl rfl rfl rfl rfl (by omega) ?_
          conv => whnf
          repeat' (first | ((first | refine zs1 ?_ | refine zs2 ?_ | refine zs3 ?_ | refine zs4 ?_ | refine zs5 ?_); conv => whnf) | ((first | apply zi1 | apply zi2 | apply zi3 | apply zi4 | apply zi5) <;> intro _ <;> conv => whnf))
          refine LEnd.intro (k + 1, w ++ [(k : Int)]) ⟨by dsimp only; omega, by dsimp only; rw [List.length_append]; simp only [List.length_singleton]; omega, by dsimp only; rw [h3, List.append_assoc]; rfl⟩ (by dsimp only; omega) ?_
          conv => whnf
          rw [List.length_append]
          refine Retell.turn ⟨[4], 5, [], []⟩ (TurnOk.mk' _ _ [] [] (OutOk.lift _) rfl (by decide) zb trivial trivial rfl) zv zm
        · rename_i hS
          have hS2 : S = [] := List.length_eq_zero_iff.1 (by omega)
          rw [decide_eq_true hS2, Bool.not_true, if_neg (by decide)] at h3
          refine LEnd.intro (k + 1, w) ⟨by dsimp only; omega, by dsimp only; omega, h3⟩ (by dsimp only; omega) ?_
          conv => whnf
          refine Retell.turn ⟨[0], 3, [], []⟩ (TurnOk.mk' _ _ [] [] (OutOk.lift _) rfl (by decide) zb trivial trivial rfl) zv zm
    · have : k = N.ps.length := by dsimp only at h5; omega
      subst this
      rw [Nat.sub_self, mvS, List.append_nil] at h3
      subst h3
      conv => whnf
      repeat' (first | ((first | refine zs1 ?_ | refine zs2 ?_ | refine zs3 ?_ | refine zs4 ?_ | refine zs5 ?_); conv => whnf) | ((first | apply zi1 | apply zi2 | apply zi3 | apply zi4 | apply zi5) <;> intro _ <;> conv => whnf))
      refine VOut.data 1 [(0, M.flatMap encI)] [] rfl zf (by exact FmAll.nil) zv
end Go.Proofs.Ytdlnjnfkbneibaa

open Go.Vm
open Clip (Pn Sg Nt Bd Rt Sp Co Pl NtOk chk chk_ok bnds bnds_sz bnds_len bnds_sq offL offS offS_bd offS_len allOf mvB mvS mvL mvS_len mvB_pts regS BdSz pts)
namespace Go.Proofs.Ytdlnjnfkbneibaa
set_option maxRecDepth 20000
set_option maxHeartbeats 4000000

theorem vc_rMovers_no (N : Nt) (h : Hp) (hn : N.ps.length ≤ 4000000) (hm : N.ss.length ≤ 4000000) (h0 : mvE N ≠ 0) : VC Try.prog 21 [vN N] h (.tuple [.nilslice, I (mvE N)]) h := by
  by_cases hc : chk N = 0
  · have o := chk_ok.1 hc
    have c := fun h => vc_rOff_ok N h o
    have he : offL N = [] := Classical.byContradiction fun e => h0 (mvE_ok.2 ⟨o, e⟩)
    have e : mvE N = 10 := by unfold mvE; rw [if_neg (by omega), if_pos he]
    rw [he] at c
    rw [e]
    refine VC.body Try.func21 rfl Try.ntmps21 Try.call21 (h.grows_refl) rfl ?_; conv => whnf
    repeat' (first | ((first | refine zs1 ?_ | refine zs2 ?_ | refine zs3 ?_ | refine zs4 ?_ | refine zs5 ?_ | refine zs6 [] ?_); conv => whnf) | ((first | apply zi1 | apply zi2 | apply zi3 | apply zi4 | apply zi5) <;> intro _ <;> conv => whnf) | (refine VCall.intro (c _) ?_; conv => whnf))
    · exact VOut.same rfl
  · have c := fun h => vc_rOff_no N h hn hm hc
    have e : mvE N = chk N := by unfold mvE; rw [if_pos hc]
    rw [e]
    generalize chk N = E at c hc
    refine VC.body Try.func21 rfl Try.ntmps21 Try.call21 (h.grows_refl) rfl ?_; conv => whnf
    repeat' (first | ((first | refine zs1 ?_ | refine zs2 ?_ | refine zs3 ?_ | refine zs4 ?_ | refine zs5 ?_ | refine zs6 [] ?_); conv => whnf) | ((first | apply zi1 | apply zi2 | apply zi3 | apply zi4 | apply zi5) <;> intro _ <;> conv => whnf) | (refine VCall.intro (c _) ?_; conv => whnf))
    · exact VOut.same rfl
    · exfalso; omega
def aoB (N : Nt) (p : Int) (k : Bool) (l : List Int) : Bool := k && l.all (ofB N p)
theorem aoB_at {N : Nt} {p : Int} {k : Bool} {l : List Int} {m : Nat} {i : Int} (h : l[m]? = some i) : aoB N p k (l.drop m) = aoB N p (k && ofB N p i) (l.drop (m + 1)) := by
  obtain ⟨hlt, rfl⟩ := List.getElem?_eq_some_iff.1 h
  unfold aoB
  rw [List.drop_eq_getElem_cons hlt, List.all_cons, Bool.and_assoc]
theorem vc_rMovers_ok (N : Nt) (h : Hp) (o : NtOk N) (h0 : offL N ≠ []) : VC Try.prog 21 [vN N] h (.tuple [ints (mvL N), I 0]) h := by
  have hn := o.n
  have hm := o.m
  have c := fun h => vc_rOff_ok N h o
  obtain ⟨M, hM⟩ : ∃ M, M = mvL N := ⟨_, rfl⟩
  rw [← hM]
  have hM : M = [] ++ mvS N (0 : Nat) (N.ps.length - 0) := hM
  have hO : 0 < (offL N).length := List.length_pos_iff.2 h0
  have hbd := fun i (hi : i ∈ offL N) => offL_bd hi
  have hol := offL_len N
  obtain ⟨O, eO⟩ : ∃ O, O = offL N := ⟨_, rfl⟩
  rw [← eO] at hO hbd c hol
  refine VC.body Try.func21 rfl Try.ntmps21 Try.call21 (h.grows_refl) rfl ?_; conv => whnf
  repeat' (first | ((first | refine zs1 ?_ | refine zs2 ?_ | refine zs3 ?_ | refine zs4 ?_ | refine zs5 ?_ | refine zs6 [] ?_); conv => whnf) | ((first | apply zi1 | apply zi2 | apply zi3 | apply zi4 | apply zi5) <;> intro _ <;> conv => whnf) | (refine VCall.intro (c _) ?_; conv => whnf))
  · exfalso; omega
  refine VCode.lp (fun y : Nat × List Int => [(1, .fp (encN N)), (2, .nilslice), (3, I 0), (4, ints O), (6, .gl (.loc 0) 1 y.2.length), (7, I y.1)]) (fun y => [.flat true (y.2.flatMap encI)]) (fun y => y.1 ≤ N.ps.length ∧ y.2.length ≤ y.1 ∧ M = y.2 ++ mvS N y.1 (N.ps.length - y.1)) (fun y => N.ps.length - y.1) (0, []) ⟨Nat.zero_le _, Nat.zero_le _, hM⟩ ?_ ?_
  · conv => whnf
    refine Retell.turn ⟨[1], 1, [(0, encN N)], []⟩ (TurnOk.mk' _ _ [(0, encN N)] [] (OutOk.lift _) rfl (by decide) zb zf trivial rfl) zv zm
  · clear hM
    rintro ⟨k, w⟩ ⟨h1, h2, h3⟩
    dsimp only at h1 h2 h3
    conv => whnf
    repeat' (first | ((first | refine zs1 ?_ | refine zs2 ?_ | refine zs3 ?_ | refine zs4 ?_ | refine zs5 ?_); conv => whnf) | ((first | apply zi1 | apply zi2 | apply zi3 | apply zi4 | apply zi5) <;> intro _ <;> conv => whnf))
    · rename_i h5
      dsimp only at h5
      rw [mvS_at (by omega)] at h3
      have cB := fun h => vc_rbounds N k (-1) h o
      rw [bndK_none] at cB
      have cR := fun h => vc_points (bnds N k) h (by have := bnds_len o k; omega) (bnds_sz o k)
      have eB := mvB_pts o k
      have eA : allOf N k = O.all (ofB N k) := by rw [eO]; rfl
      rw [eB, eA] at h3
      generalize bnds N k = bs at *
      generalize pts bs = S at *
      obtain ⟨f0, hf0⟩ : ∃ f0 : Bool, f0 = decide ((0 : Int) < (S.length : Int)) := ⟨_, rfl⟩
      have eS : (O.all (ofB N k) && !decide (S = [])) = aoB N k f0 (O.drop 0) := by
        have e1 : (!decide (S = [])) = f0 := by
          rw [hf0]
          cases S with
          | nil => rfl
          | cons a b => simp
        rw [e1, Bool.and_comm]; rfl
      rw [eS] at h3
      obtain ⟨A, hA⟩ : ∃ A, A = aoB N k f0 (O.drop 0) := ⟨_, rfl⟩
      rw [← hA] at h3
      repeat' (first | ((first | refine zs1 ?_ | refine zs2 ?_ | refine zs3 ?_ | refine zs4 ?_ | refine zs5 ?_); conv => whnf) | ((first | apply zi1 | apply zi2 | apply zi3 | apply zi4 | apply zi5) <;> intro _ <;> conv => whnf) | (refine VCall.intro (cB _) ?_; conv => whnf) | (refine VCall.intro (cR _) ?_; conv => whnf))
      rw [← hf0]
      refine VCode.lp (fun y : Nat × Bool => [(1, .fp (encN N)), (2, .nilslice), (3, I 0), (4, ints O), (6, .gl (.loc 0) 1 w.length), (7, I k), (8, B y.2), (9, I y.1)]) (fun _ => [.flat true (w.flatMap encI)]) (fun y => y.1 ≤ O.length ∧ A = aoB N k y.2 (O.drop y.1)) (fun y => O.length - y.1) (0, f0) ⟨Nat.zero_le _, hA⟩ ?_ ?_
      · conv => whnf
        refine Retell.turn ⟨[0], 1, [], []⟩ (TurnOk.mk' _ _ [] [] (OutOk.lift _) rfl (by decide) zb trivial trivial rfl) zv zm
      · clear hA
        rintro ⟨m, f⟩ ⟨d1, d2⟩
        dsimp only at d1 d2
        conv => whnf
        refine VIte.dec (fun d3 => ?_) (fun d3 => ?_)
        · dsimp only at d3
          have hm' : O[m]? = some O[m] := List.getElem?_eq_getElem (by omega)
          have hb := hbd O[m] (List.getElem_mem (by omega))
          rw [aoB_at hm'] at d2
          generalize O[m] = i at hm' hb d2
          have hk : N.ss[i.toNat]? = some (N.ss[i.toNat]'(by omega)) := List.getElem?_eq_getElem _
          rw [ofB_at hk] at d2
          generalize N.ss[i.toNat]'(by omega) = s at hk d2
          cases f with
          | false =>
            rw [Bool.false_and] at d2
            conv => whnf
            repeat' (first | ((first | refine zs1 ?_ | refine zs2 ?_ | refine zs3 ?_ | refine zs4 ?_ | refine zs5 ?_); conv => whnf) | ((first | apply zi1 | apply zi2 | apply zi3 | apply zi4 | apply zi5) <;> intro _ <;> conv => whnf))
            refine zs6 [] ?_
            conv => whnf
            repeat' (first | ((first | refine zs1 ?_ | refine zs2 ?_ | refine zs3 ?_ | refine zs4 ?_ | refine zs5 ?_); conv => whnf) | ((first | apply zi1 | apply zi2 | apply zi3 | apply zi4 | apply zi5) <;> intro _ <;> conv => whnf) | (refine VAny.ix encI_len m rfl rfl hm' ?_; conv => whnf) | (refine VAny.ix encSg_len i.toNat (by omega) rfl hk ?_; conv => whnf))
            refine LEnd.intro (m + 1, false) ⟨by dsimp only; omega, d2⟩ (by dsimp only; omega) ?_
            conv => whnf
            refine Retell.turn ⟨[0], 2, [], []⟩ (TurnOk.mk' _ _ [] [] (OutOk.lift _) rfl (by decide) zb trivial trivial rfl) zv zm
          | true =>
            rw [Bool.true_and] at d2
            conv => whnf
            repeat' (first | ((first | refine zs1 ?_ | refine zs2 ?_ | refine zs3 ?_ | refine zs4 ?_ | refine zs5 ?_); conv => whnf) | ((first | apply zi1 | apply zi2 | apply zi3 | apply zi4 | apply zi5) <;> intro _ <;> conv => whnf))
            refine zs6 [] ?_
            conv => whnf
            repeat' (first | ((first | refine zs1 ?_ | refine zs2 ?_ | refine zs3 ?_ | refine zs4 ?_ | refine zs5 ?_); conv => whnf) | ((first | apply zi1 | apply zi2 | apply zi3 | apply zi4 | apply zi5) <;> intro _ <;> conv => whnf) | (refine VAny.ix encI_len m rfl rfl hm' ?_; conv => whnf) | (refine VAny.ix encSg_len i.toNat (by omega) rfl hk ?_; conv => whnf))
            · rename_i hz
              rw [decide_eq_true (by omega)] at d2
              refine LEnd.intro (m + 1, true) ⟨by dsimp only; omega, d2⟩ (by dsimp only; omega) ?_
              conv => whnf
              refine Retell.turn ⟨[0], 2, [], []⟩ (TurnOk.mk' _ _ [] [] (OutOk.lift _) rfl (by decide) zb trivial trivial rfl) zv zm
            · rename_i hz
              refine LEnd.intro (m + 1, decide (s.t = (k : Int))) ⟨by dsimp only; omega, by rw [d2]; congr 1; exact decide_eq_decide.2 (by omega)⟩ (by dsimp only; omega) ?_
              conv => whnf
              refine Retell.turn ⟨[0], 2, [], []⟩ (TurnOk.mk' _ _ [] [] (OutOk.lift _) rfl (by decide) zb trivial trivial rfl) zv zm
        · have : m = O.length := by dsimp only at d3; omega
          subst this
          have d2 : A = f := by rw [d2]; unfold aoB; simp
          subst d2
          cases A with
          | false =>
            rw [if_neg (by decide)] at h3
            conv => whnf
            repeat' (first | ((first | refine zs1 ?_ | refine zs2 ?_ | refine zs3 ?_ | refine zs4 ?_ | refine zs5 ?_); conv => whnf) | ((first | apply zi1 | apply zi2 | apply zi3 | apply zi4 | apply zi5) <;> intro _ <;> conv => whnf))
            refine LEnd.intro (k + 1, w) ⟨by dsimp only; omega, by dsimp only; omega, h3⟩ (by dsimp only; omega) ?_
            conv => whnf
            refine Retell.turn ⟨[0], 1, [], []⟩ (TurnOk.mk' _ _ [] [] (OutOk.lift _) rfl (by decide) zb trivial trivial rfl) zv zm
          | true =>
            rw [if_pos rfl] at h3
            conv => whnf
            repeat' (first | ((first | refine zs1 ?_ | refine zs2 ?_ | refine zs3 ?_ | refine zs4 ?_ | refine zs5 ?_); conv => whnf) | ((first | apply zi1 | apply zi2 | apply zi3 | apply zi4 | apply zi5) <;> intro _ <;> conv => whnf))
            refine VMem.app1 (l := w) (k : Int) encI_len rfl rfl rfl rfl rfl (by omega) ?_
            conv => whnf
            repeat' (first | ((first | refine zs1 ?_ | refine zs2 ?_ | refine zs3 ?_ | refine zs4 ?_ | refine zs5 ?_); conv => whnf) | ((first | apply zi1 | apply zi2 | apply zi3 | apply zi4 | apply zi5) <;> intro _ <;> conv => whnf))
            refine LEnd.intro (k + 1, w ++ [(k : Int)]) ⟨by dsimp only; omega, by dsimp only; rw [List.length_append]; simp only [List.length_singleton]; omega, by dsimp only; rw [h3, List.append_assoc]; rfl⟩ (by dsimp only; omega) ?_
            conv => whnf
            rw [List.length_append]
            refine Retell.turn ⟨[2], 3, [], []⟩ (TurnOk.mk' _ _ [] [] (OutOk.lift _) rfl (by decide) zb trivial trivial rfl) zv zm
    · rename_i h5
      have : k = N.ps.length := by dsimp only at h5; omega
      subst this
      rw [Nat.sub_self, mvS, List.append_nil] at h3
      subst h3
      repeat' (first | ((first | refine zs1 ?_ | refine zs2 ?_ | refine zs3 ?_ | refine zs4 ?_ | refine zs5 ?_); conv => whnf) | ((first | apply zi1 | apply zi2 | apply zi3 | apply zi4 | apply zi5) <;> intro _ <;> conv => whnf))
      refine VOut.data 1 [(0, M.flatMap encI)] [] rfl zf (by exact FmAll.nil) zv
/-! ### Who is convicted -/
def cvE (N : Nt) : Int := if mvE N ≠ 0 then mvE N else if mvL N = [] then 7 else if 1 < (mvL N).length then 11 else 0
def cvV (N : Nt) : Int := if cvE N = 0 then (mvL N).headD 0 else 0
theorem mvL_len (N : Nt) : (mvL N).length ≤ N.ps.length := mvS_len N _ 0
theorem vc_Convict (N : Nt) (h : Hp) (hn : N.ps.length ≤ 4000000) (hm : N.ss.length ≤ 4000000) : VC Try.prog 22 [vN N] h (.tuple [I (cvV N), I (cvE N)]) h := by
  unfold cvV cvE
  by_cases h0 : mvE N = 0
  · have o := mvE_ok.1 h0
    have c := fun h => vc_Movers_ok N h o.1 o.2
    rw [h0]
    generalize mvL N = M at c ⊢
    cases M with
    | nil =>
      refine VC.body Try.func22 rfl Try.ntmps22 Try.call22 (h.grows_refl) rfl ?_; conv => whnf
      repeat' (first | ((first | refine zs1 ?_ | refine zs2 ?_ | refine zs3 ?_ | refine zs4 ?_ | refine zs5 ?_ | refine zs6 [] ?_); conv => whnf) | ((first | apply zi1 | apply zi2 | apply zi3 | apply zi4 | apply zi5) <;> intro _ <;> conv => whnf) | (refine VCall.intro (c _) ?_; conv => whnf))
      exact VOut.same rfl
    | cons a r =>
      cases r with
      | nil =>
        have ha : [a][0]? = some a := rfl
        refine VC.body Try.func22 rfl Try.ntmps22 Try.call22 (h.grows_refl) rfl ?_; conv => whnf
        repeat' (first | ((first | refine zs1 ?_ | refine zs2 ?_ | refine zs3 ?_ | refine zs4 ?_ | refine zs5 ?_ | refine zs6 [] ?_); conv => whnf) | ((first | apply zi1 | apply zi2 | apply zi3 | apply zi4 | apply zi5) <;> intro _ <;> conv => whnf) | (refine VCall.intro (c _) ?_; conv => whnf) | (refine VAny.ix encI_len 0 rfl rfl ha ?_; conv => whnf))
        all_goals first | (exact VOut.same rfl) | (exfalso; simp only [List.length_cons, List.length_nil] at *; omega)
      | cons b r =>
        have e : (if (0 : Int) ≠ 0 then (0 : Int) else if (a :: b :: r) = [] then 7 else if 1 < (a :: b :: r).length then 11 else 0) = 11 := by simp
        rw [e]
        refine VC.body Try.func22 rfl Try.ntmps22 Try.call22 (h.grows_refl) rfl ?_; conv => whnf
        repeat' (first | ((first | refine zs1 ?_ | refine zs2 ?_ | refine zs3 ?_ | refine zs4 ?_ | refine zs5 ?_ | refine zs6 [] ?_); conv => whnf) | ((first | apply zi1 | apply zi2 | apply zi3 | apply zi4 | apply zi5) <;> intro _ <;> conv => whnf) | (refine VCall.intro (c _) ?_; conv => whnf))
        all_goals first | (exact VOut.same rfl) | (exfalso; simp only [List.length_cons] at *; omega)
  · have c := fun h => vc_Movers_no N h hn hm h0
    rw [if_pos h0, if_neg h0]
    generalize mvE N = E at c h0
    refine VC.body Try.func22 rfl Try.ntmps22 Try.call22 (h.grows_refl) rfl ?_; conv => whnf
    repeat' (first | ((first | refine zs1 ?_ | refine zs2 ?_ | refine zs3 ?_ | refine zs4 ?_ | refine zs5 ?_ | refine zs6 [] ?_); conv => whnf) | ((first | apply zi1 | apply zi2 | apply zi3 | apply zi4 | apply zi5) <;> intro _ <;> conv => whnf) | (refine VCall.intro (c _) ?_; conv => whnf))
    · exact VOut.same rfl
    · exfalso; omega
theorem vc_rConvict (N : Nt) (h : Hp) (hn : N.ps.length ≤ 4000000) (hm : N.ss.length ≤ 4000000) : VC Try.prog 23 [vN N] h (.tuple [I (cvV N), I (cvE N)]) h := by
  unfold cvV cvE
  by_cases h0 : mvE N = 0
  · have o := mvE_ok.1 h0
    have c := fun h => vc_rMovers_ok N h o.1 o.2
    rw [h0]
    generalize mvL N = M at c ⊢
    cases M with
    | nil =>
      refine VC.body Try.func23 rfl Try.ntmps23 Try.call23 (h.grows_refl) rfl ?_; conv => whnf
      repeat' (first | ((first | refine zs1 ?_ | refine zs2 ?_ | refine zs3 ?_ | refine zs4 ?_ | refine zs5 ?_ | refine zs6 [] ?_); conv => whnf) | ((first | apply zi1 | apply zi2 | apply zi3 | apply zi4 | apply zi5) <;> intro _ <;> conv => whnf) | (refine VCall.intro (c _) ?_; conv => whnf))
      exact VOut.same rfl
    | cons a r =>
      cases r with
      | nil =>
        have ha : [a][0]? = some a := rfl
        refine VC.body Try.func23 rfl Try.ntmps23 Try.call23 (h.grows_refl) rfl ?_; conv => whnf
        repeat' (first | ((first | refine zs1 ?_ | refine zs2 ?_ | refine zs3 ?_ | refine zs4 ?_ | refine zs5 ?_ | refine zs6 [] ?_); conv => whnf) | ((first | apply zi1 | apply zi2 | apply zi3 | apply zi4 | apply zi5) <;> intro _ <;> conv => whnf) | (refine VCall.intro (c _) ?_; conv => whnf) | (refine VAny.ix encI_len 0 rfl rfl ha ?_; conv => whnf))
        all_goals first | (exact VOut.same rfl) | (exfalso; simp only [List.length_cons, List.length_nil] at *; omega)
      | cons b r =>
        have e : (if (0 : Int) ≠ 0 then (0 : Int) else if (a :: b :: r) = [] then 7 else if 1 < (a :: b :: r).length then 11 else 0) = 11 := by simp
        rw [e]
        refine VC.body Try.func23 rfl Try.ntmps23 Try.call23 (h.grows_refl) rfl ?_; conv => whnf
        repeat' (first | ((first | refine zs1 ?_ | refine zs2 ?_ | refine zs3 ?_ | refine zs4 ?_ | refine zs5 ?_ | refine zs6 [] ?_); conv => whnf) | ((first | apply zi1 | apply zi2 | apply zi3 | apply zi4 | apply zi5) <;> intro _ <;> conv => whnf) | (refine VCall.intro (c _) ?_; conv => whnf))
        all_goals first | (exact VOut.same rfl) | (exfalso; simp only [List.length_cons] at *; omega)
  · have c := fun h => vc_rMovers_no N h hn hm h0
    rw [if_pos h0, if_neg h0]
    generalize mvE N = E at c h0
    refine VC.body Try.func23 rfl Try.ntmps23 Try.call23 (h.grows_refl) rfl ?_; conv => whnf
    repeat' (first | ((first | refine zs1 ?_ | refine zs2 ?_ | refine zs3 ?_ | refine zs4 ?_ | refine zs5 ?_ | refine zs6 [] ?_); conv => whnf) | ((first | apply zi1 | apply zi2 | apply zi3 | apply zi4 | apply zi5) <;> intro _ <;> conv => whnf) | (refine VCall.intro (c _) ?_; conv => whnf))
    · exact VOut.same rfl
    · exfalso; omega
end Go.Proofs.Ytdlnjnfkbneibaa

open Go.Vm
open Clip (Pn Sg Nt Bd Rt Sp Co Pl NtOk chk chk_ok bnds bnds_sz bnds_len bnds_sq regS BdSz SpSz cmpR regS_sz)
namespace Go.Proofs.Ytdlnjnfkbneibaa
set_option maxRecDepth 20000
set_option maxHeartbeats 4000000

def crE (N : Nt) (p : Int) : Int := if brE N p ≠ 0 then brE N p else if regS (bnds N p) = [] then 8 else 0
def crS (N : Nt) (p : Int) : List Sp := if crE N p = 0 then regS (bnds N p) else []
theorem crE_ok {N : Nt} {p : Int} : crE N p = 0 ↔ brE N p = 0 ∧ regS (bnds N p) ≠ [] := by
  unfold crE
  split
  · rename_i h; exact ⟨fun e => absurd e h, fun e => absurd e.1 h⟩
  · rename_i h
    split
    · rename_i h2; exact ⟨fun e => by omega, fun e => absurd h2 e.2⟩
    · rename_i h2; exact ⟨fun _ => ⟨Classical.not_not.1 h, h2⟩, fun _ => rfl⟩
theorem vc_Corners (N : Nt) (p : Int) (h : Hp) (hn : N.ps.length ≤ 4000000) (hm : N.ss.length ≤ 4000000) : VC Try.prog 27 [vN N, I p] h (.tuple [sps (crS N p), I (crE N p)]) h := by
  have c := fun h => vc_begun N p h hn hm
  unfold crS crE
  by_cases h0 : brE N p = 0
  · have o := (brE_ok.1 h0).1
    have cB := fun h => vc_bounds N p h o
    have cR := fun h => vc_region (bnds N p) h (by have := bnds_len o p; omega) (bnds_sz o p)
    rw [h0] at c ⊢
    generalize bnds N p = bs at *
    generalize regS bs = S at *
    by_cases hS : S = []
    · subst hS
      refine VC.body Try.func27 rfl Try.ntmps27 Try.call27 (h.grows_refl) rfl ?_; conv => whnf
      repeat' (first | ((first | refine zs1 ?_ | refine zs2 ?_ | refine zs3 ?_ | refine zs4 ?_ | refine zs5 ?_ | refine zs6 [] ?_); conv => whnf) | ((first | apply zi1 | apply zi2 | apply zi3 | apply zi4 | apply zi5) <;> intro _ <;> conv => whnf) | (refine VCall.intro (c _) ?_; conv => whnf) | (refine VCall.intro (cB _) ?_; conv => whnf) | (refine VCall.intro (cR _) ?_; conv => whnf))
      all_goals first | (refine VOut.data 1 [] [] rfl zf (by exact FmAll.nil) zv
                         done) | (exfalso; simp only [List.length_nil] at *; omega)
    · have hl := List.length_pos_iff.2 hS
      have e : (if (0 : Int) ≠ 0 then (0 : Int) else if S = [] then 8 else 0) = 0 := by rw [if_neg (by decide), if_neg hS]
      rw [e, if_pos rfl]
      refine VC.body Try.func27 rfl Try.ntmps27 Try.call27 (h.grows_refl) rfl ?_; conv => whnf
      repeat' (first | ((first | refine zs1 ?_ | refine zs2 ?_ | refine zs3 ?_ | refine zs4 ?_ | refine zs5 ?_ | refine zs6 [] ?_); conv => whnf) | ((first | apply zi1 | apply zi2 | apply zi3 | apply zi4 | apply zi5) <;> intro _ <;> conv => whnf) | (refine VCall.intro (c _) ?_; conv => whnf) | (refine VCall.intro (cB _) ?_; conv => whnf) | (refine VCall.intro (cR _) ?_; conv => whnf))
      all_goals first | (exact VOut.same rfl) | (exfalso; omega)
  · rw [if_pos h0, if_neg h0]
    generalize brE N p = E at c h0
    refine VC.body Try.func27 rfl Try.ntmps27 Try.call27 (h.grows_refl) rfl ?_; conv => whnf
    repeat' (first | ((first | refine zs1 ?_ | refine zs2 ?_ | refine zs3 ?_ | refine zs4 ?_ | refine zs5 ?_ | refine zs6 [] ?_); conv => whnf) | ((first | apply zi1 | apply zi2 | apply zi3 | apply zi4 | apply zi5) <;> intro _ <;> conv => whnf) | (refine VCall.intro (c _) ?_; conv => whnf))
    all_goals first | (exfalso; omega) | (refine VOut.data 1 [] [] rfl zf (by exact FmAll.nil) zv
                                          done)
/-! ### The least and the greatest -/
def mnS (f : Sp → Rt) : Sp → List Sp → Sp
  | m, [] => m
  | m, s :: r => mnS f (if cmpR (f s) (f m) < 0 then s else m) r
def mxS (f : Sp → Rt) : Sp → List Sp → Sp
  | m, [] => m
  | m, s :: r => mxS f (if 0 < cmpR (f s) (f m) then s else m) r
theorem mnS_at {f : Sp → Rt} {m : Sp} {l : List Sp} {k : Nat} {s : Sp} (h : l[k]? = some s) : mnS f m (l.drop k) = mnS f (if cmpR (f s) (f m) < 0 then s else m) (l.drop (k + 1)) := by
  obtain ⟨hlt, rfl⟩ := List.getElem?_eq_some_iff.1 h
  rw [List.drop_eq_getElem_cons hlt, mnS]
theorem mxS_at {f : Sp → Rt} {m : Sp} {l : List Sp} {k : Nat} {s : Sp} (h : l[k]? = some s) : mxS f m (l.drop k) = mxS f (if 0 < cmpR (f s) (f m) then s else m) (l.drop (k + 1)) := by
  obtain ⟨hlt, rfl⟩ := List.getElem?_eq_some_iff.1 h
  rw [List.drop_eq_getElem_cons hlt, mxS]
theorem mnS_mem {f : Sp → Rt} : ∀ {l : List Sp} {m : Sp}, mnS f m l ∈ m :: l
  | [], m => by simp [mnS]
  | s :: r, m => by
    rw [mnS]
    have := mnS_mem (f := f) (l := r) (m := if cmpR (f s) (f m) < 0 then s else m)
    rcases List.mem_cons.1 this with h | h
    · rw [h]; split <;> simp
    · exact List.mem_cons_of_mem _ (List.mem_cons_of_mem _ h)
theorem mxS_mem {f : Sp → Rt} : ∀ {l : List Sp} {m : Sp}, mxS f m l ∈ m :: l
  | [], m => by simp [mxS]
  | s :: r, m => by
    rw [mxS]
    have := mxS_mem (f := f) (l := r) (m := if 0 < cmpR (f s) (f m) then s else m)
    rcases List.mem_cons.1 this with h | h
    · rw [h]; split <;> simp
    · exact List.mem_cons_of_mem _ (List.mem_cons_of_mem _ h)
theorem vc_MinF (g : FuncId) (f : Sp → Rt) (c : ∀ (s : Sp) (h : Hp), VC Try.prog g [vSp s] h (vRt (f s)) h) (s0 : Sp) (l : List Sp) (h : Hp) (hn : l.length ≤ 4000000) (hz : ∀ s ∈ s0 :: l, RtSz (f s)) : VC Try.prog 109 [sps (s0 :: l), .func (.func 110) [vE g] []] h (vSp (mnS f s0 l)) h := by
  obtain ⟨E, hE⟩ : ∃ E, E = mnS f s0 l := ⟨_, rfl⟩
  rw [← hE]
  have hE : E = mnS f s0 ((s0 :: l).drop 1) := hE
  obtain ⟨L, hL⟩ : ∃ L, L = s0 :: l := ⟨_, rfl⟩
  have h0 : L[0]? = some s0 := by rw [hL]; rfl
  have hs0 : s0 ∈ L := by rw [hL]; simp
  have hlen : L.length ≤ 5000000 ∧ 0 < L.length := by rw [hL, List.length_cons]; omega
  rw [← hL] at hz hE ⊢
  clear hL
  refine VC.body Try.func109 rfl Try.ntmps109 Try.call109 (h.grows_refl) rfl ?_; conv => whnf
  repeat' (first | ((first | refine zs1 ?_ | refine zs2 ?_ | refine zs3 ?_ | refine zs4 ?_ | refine zs5 ?_); conv => whnf) | ((first | apply zi1 | apply zi2 | apply zi3 | apply zi4 | apply zi5) <;> intro _ <;> conv => whnf) | (refine VAny.ix encSp_len 0 rfl rfl h0 ?_; conv => whnf))
  · exfalso; omega
  refine VCode.lp (fun y : Nat × Sp => [(0, sps L), (1, .func (.func 110) [vE g] []), (4, .ptr (.loc 0) 0), (5, .ptr (.loc 1) 0), (6, I y.1)]) (fun y => [.flat true [DI 0, DI 0, DI 0, DI 0], .flat true (encSp y.2)]) (fun y => (1 ≤ y.1 ∧ y.1 ≤ L.length) ∧ y.2 ∈ L ∧ E = mnS f y.2 (L.drop y.1)) (fun y => L.length - y.1) (1, s0) ⟨⟨Nat.le_refl _, hlen.2⟩, hs0, hE⟩ ?_ ?_
  · conv => whnf
    refine Retell.turn ⟨[0,1], 2, [], []⟩ (TurnOk.mk' _ _ [] [] (OutOk.lift _) rfl (by decide) zb trivial trivial rfl) zv zm
  · clear hE
    rintro ⟨k, m⟩ ⟨h1, h2, h3⟩
    dsimp only at h1 h2 h3
    conv => whnf
    refine VIte.dec (fun h5 => ?_) (fun h5 => ?_)
    · dsimp only at h5
      have hk : L[k]? = some L[k] := List.getElem?_eq_getElem (by omega)
      have hm := List.getElem_mem (l := L) (n := k) (by omega)
      rw [mnS_at hk] at h3
      generalize L[k] = s at hk hm h3
      have cc := fun h => vc_cmp g f c s m h (hz s hm) (hz m h2)
      generalize cmpR (f s) (f m) = C at cc h3
      conv => whnf
      repeat' (first | ((first | refine zs1 ?_ | refine zs2 ?_ | refine zs3 ?_ | refine zs4 ?_ | refine zs5 ?_); conv => whnf) | ((first | apply zi1 | apply zi2 | apply zi3 | apply zi4 | apply zi5) <;> intro _ <;> conv => whnf))
      refine zs6 [] ?_
      conv => whnf
      repeat' (first | ((first | refine zs1 ?_ | refine zs2 ?_ | refine zs3 ?_ | refine zs4 ?_ | refine zs5 ?_); conv => whnf) | ((first | apply zi1 | apply zi2 | apply zi3 | apply zi4 | apply zi5) <;> intro _ <;> conv => whnf) | (refine VAny.ix encSp_len k rfl rfl hk ?_; conv => whnf) | (refine VCall.intro (cc _) ?_; conv => whnf))
      · rename_i hc
        rw [if_pos hc] at h3
        refine LEnd.intro (k + 1, s) ⟨by dsimp only; omega, hm, h3⟩ (by dsimp only; omega) ?_
        conv => whnf
        refine Retell.turn ⟨[0,1], 2, [], []⟩ (TurnOk.mk' _ _ [] [] (OutOk.lift _) rfl (by decide) zb trivial trivial rfl) zv zm
      · rename_i hc
        rw [if_neg hc] at h3
        refine LEnd.intro (k + 1, m) ⟨by dsimp only; omega, h2, h3⟩ (by dsimp only; omega) ?_
        conv => whnf
        refine Retell.turn ⟨[0,1], 2, [], []⟩ (TurnOk.mk' _ _ [] [] (OutOk.lift _) rfl (by decide) zb trivial trivial rfl) zv zm
    · rw [List.drop_of_length_le (by dsimp only at h5; omega), mnS] at h3
      subst h3
      conv => whnf
      repeat' (first | ((first | refine zs1 ?_ | refine zs2 ?_ | refine zs3 ?_ | refine zs4 ?_ | refine zs5 ?_); conv => whnf) | ((first | apply zi1 | apply zi2 | apply zi3 | apply zi4 | apply zi5) <;> intro _ <;> conv => whnf))
      exact VOut.same rfl
theorem vc_MaxF (g : FuncId) (f : Sp → Rt) (c : ∀ (s : Sp) (h : Hp), VC Try.prog g [vSp s] h (vRt (f s)) h) (s0 : Sp) (l : List Sp) (h : Hp) (hn : l.length ≤ 4000000) (hz : ∀ s ∈ s0 :: l, RtSz (f s)) : VC Try.prog 111 [sps (s0 :: l), .func (.func 110) [vE g] []] h (vSp (mxS f s0 l)) h := by
  obtain ⟨E, hE⟩ : ∃ E, E = mxS f s0 l := ⟨_, rfl⟩
  rw [← hE]
  have hE : E = mxS f s0 ((s0 :: l).drop 1) := hE
  obtain ⟨L, hL⟩ : ∃ L, L = s0 :: l := ⟨_, rfl⟩
  have h0 : L[0]? = some s0 := by rw [hL]; rfl
  have hs0 : s0 ∈ L := by rw [hL]; simp
  have hlen : L.length ≤ 5000000 ∧ 0 < L.length := by rw [hL, List.length_cons]; omega
  rw [← hL] at hz hE ⊢
  clear hL
  refine VC.body Try.func111 rfl Try.ntmps111 Try.call111 (h.grows_refl) rfl ?_; conv => whnf
  repeat' (first | ((first | refine zs1 ?_ | refine zs2 ?_ | refine zs3 ?_ | refine zs4 ?_ | refine zs5 ?_); conv => whnf) | ((first | apply zi1 | apply zi2 | apply zi3 | apply zi4 | apply zi5) <;> intro _ <;> conv => whnf) | (refine VAny.ix encSp_len 0 rfl rfl h0 ?_; conv => whnf))
  · exfalso; omega
  refine VCode.lp (fun y : Nat × Sp => [(0, sps L), (1, .func (.func 110) [vE g] []), (4, .ptr (.loc 0) 0), (5, .ptr (.loc 1) 0), (6, I y.1)]) (fun y => [.flat true [DI 0, DI 0, DI 0, DI 0], .flat true (encSp y.2)]) (fun y => (1 ≤ y.1 ∧ y.1 ≤ L.length) ∧ y.2 ∈ L ∧ E = mxS f y.2 (L.drop y.1)) (fun y => L.length - y.1) (1, s0) ⟨⟨Nat.le_refl _, hlen.2⟩, hs0, hE⟩ ?_ ?_
  · conv => whnf
    refine Retell.turn ⟨[0,1], 2, [], []⟩ (TurnOk.mk' _ _ [] [] (OutOk.lift _) rfl (by decide) zb trivial trivial rfl) zv zm
  · clear hE
    rintro ⟨k, m⟩ ⟨h1, h2, h3⟩
    dsimp only at h1 h2 h3
    conv => whnf
    refine VIte.dec (fun h5 => ?_) (fun h5 => ?_)
    · dsimp only at h5
      have hk : L[k]? = some L[k] := List.getElem?_eq_getElem (by omega)
      have hm := List.getElem_mem (l := L) (n := k) (by omega)
      rw [mxS_at hk] at h3
      generalize L[k] = s at hk hm h3
      have cc := fun h => vc_cmp g f c s m h (hz s hm) (hz m h2)
      generalize cmpR (f s) (f m) = C at cc h3
      conv => whnf
      repeat' (first | ((first | refine zs1 ?_ | refine zs2 ?_ | refine zs3 ?_ | refine zs4 ?_ | refine zs5 ?_); conv => whnf) | ((first | apply zi1 | apply zi2 | apply zi3 | apply zi4 | apply zi5) <;> intro _ <;> conv => whnf))
      refine zs6 [] ?_
      conv => whnf
      repeat' (first | ((first | refine zs1 ?_ | refine zs2 ?_ | refine zs3 ?_ | refine zs4 ?_ | refine zs5 ?_); conv => whnf) | ((first | apply zi1 | apply zi2 | apply zi3 | apply zi4 | apply zi5) <;> intro _ <;> conv => whnf) | (refine VAny.ix encSp_len k rfl rfl hk ?_; conv => whnf) | (refine VCall.intro (cc _) ?_; conv => whnf))
      · rename_i hc
        rw [if_pos hc] at h3
        refine LEnd.intro (k + 1, s) ⟨by dsimp only; omega, hm, h3⟩ (by dsimp only; omega) ?_
        conv => whnf
        refine Retell.turn ⟨[0,1], 2, [], []⟩ (TurnOk.mk' _ _ [] [] (OutOk.lift _) rfl (by decide) zb trivial trivial rfl) zv zm
      · rename_i hc
        rw [if_neg hc] at h3
        refine LEnd.intro (k + 1, m) ⟨by dsimp only; omega, h2, h3⟩ (by dsimp only; omega) ?_
        conv => whnf
        refine Retell.turn ⟨[0,1], 2, [], []⟩ (TurnOk.mk' _ _ [] [] (OutOk.lift _) rfl (by decide) zb trivial trivial rfl) zv zm
    · rw [List.drop_of_length_le (by dsimp only at h5; omega), mxS] at h3
      subst h3
      conv => whnf
      repeat' (first | ((first | refine zs1 ?_ | refine zs2 ?_ | refine zs3 ?_ | refine zs4 ?_ | refine zs5 ?_); conv => whnf) | ((first | apply zi1 | apply zi2 | apply zi3 | apply zi4 | apply zi5) <;> intro _ <;> conv => whnf))
      exact VOut.same rfl
theorem vc_least (g : FuncId) (f : Sp → Rt) (c : ∀ (s : Sp) (h : Hp), VC Try.prog g [vSp s] h (vRt (f s)) h) (s0 : Sp) (l : List Sp) (h : Hp) (hn : l.length ≤ 4000000) (hz : ∀ s ∈ s0 :: l, RtSz (f s)) : VC Try.prog 81 [vE g, sps (s0 :: l)] h (vSp (mnS f s0 l)) h := by
  have cc := fun h => vc_MinF g f c s0 l h hn hz
  generalize mnS f s0 l = E at cc
  refine VC.body Try.func81 rfl Try.ntmps81 Try.call81 (h.grows_refl) rfl ?_; conv => whnf
  repeat' (first | ((first | refine zs1 ?_ | refine zs2 ?_ | refine zs3 ?_ | refine zs4 ?_ | refine zs5 ?_); conv => whnf) | ((first | apply zi1 | apply zi2 | apply zi3 | apply zi4 | apply zi5) <;> intro _ <;> conv => whnf) | (refine VCall.intro (cc _) ?_; conv => whnf))
  exact VOut.same rfl
theorem vc_greatest (g : FuncId) (f : Sp → Rt) (c : ∀ (s : Sp) (h : Hp), VC Try.prog g [vSp s] h (vRt (f s)) h) (s0 : Sp) (l : List Sp) (h : Hp) (hn : l.length ≤ 4000000) (hz : ∀ s ∈ s0 :: l, RtSz (f s)) : VC Try.prog 83 [vE g, sps (s0 :: l)] h (vSp (mxS f s0 l)) h := by
  have cc := fun h => vc_MaxF g f c s0 l h hn hz
  generalize mxS f s0 l = E at cc
  refine VC.body Try.func83 rfl Try.ntmps83 Try.call83 (h.grows_refl) rfl ?_; conv => whnf
  repeat' (first | ((first | refine zs1 ?_ | refine zs2 ?_ | refine zs3 ?_ | refine zs4 ?_ | refine zs5 ?_); conv => whnf) | ((first | apply zi1 | apply zi2 | apply zi3 | apply zi4 | apply zi5) <;> intro _ <;> conv => whnf) | (refine VCall.intro (cc _) ?_; conv => whnf))
  exact VOut.same rfl
def dnR (r : Rt) : Int := r.N.tdiv r.D
def upR (r : Rt) : Int := (r.N + r.D - 1).tdiv r.D
theorem vc_down (r : Rt) (h : Hp) (hr : RtSz r) : VC Try.prog 79 [vRt r] h (I (dnR r)) h := by
  obtain ⟨h1, h2⟩ := hr
  have w : IntKind.i64.wrap (r.N.tdiv r.D) = r.N.tdiv r.D := wrap_i64 (by have := Int.natAbs_tdiv_le_natAbs r.N r.D; omega)
  refine VC.body Try.func79 rfl Try.ntmps79 Try.call79 (h.grows_refl) rfl ?_; conv => whnf
  repeat' (first | ((first | refine zs1 ?_ | refine zs2 ?_ | refine zs3 ?_ | refine zs4 ?_ | refine zs5 ?_ | refine zs6 [] ?_); conv => whnf) | ((first | apply zi1 | apply zi2 | apply zi3 | apply zi4 | apply zi5) <;> intro _ <;> conv => whnf))
  all_goals first | (exfalso; omega) | (refine VOut.same ?_; show I (IntKind.i64.wrap _) = _; rw [w]; rfl)
theorem vc_up (r : Rt) (h : Hp) (hr : RtSz r) : VC Try.prog 82 [vRt r] h (I (upR r)) h := by
  obtain ⟨h1, h2⟩ := hr
  have w : IntKind.i64.wrap ((r.N + r.D - 1).tdiv r.D) = (r.N + r.D - 1).tdiv r.D := wrap_i64 (by have := Int.natAbs_tdiv_le_natAbs (r.N + r.D - 1) r.D; omega)
  refine VC.body Try.func82 rfl Try.ntmps82 Try.call82 (h.grows_refl) rfl ?_; conv => whnf
  repeat' (first | ((first | refine zs1 ?_ | refine zs2 ?_ | refine zs3 ?_ | refine zs4 ?_ | refine zs5 ?_ | refine zs6 [] ?_); conv => whnf) | ((first | apply zi1 | apply zi2 | apply zi3 | apply zi4 | apply zi5) <;> intro _ <;> conv => whnf))
  all_goals first | (exfalso; omega) | (refine VOut.same ?_; show I (IntKind.i64.wrap _) = _; rw [w]; rfl)
end Go.Proofs.Ytdlnjnfkbneibaa

open Go.Vm
open Clip (Pn Sg Nt Bd Rt Sp Co Pl NtOk chk chk_ok bnds bnds_sz bnds_len bnds_sq regS BdSz SpSz cmpR regS_sz)
namespace Go.Proofs.Ytdlnjnfkbneibaa
set_option maxRecDepth 20000
set_option maxHeartbeats 4000000

def vSpan (a : Int × Int) : V := .agg [I a.1, I a.2]
def bxV (f : Sp → Rt) : List Sp → Int × Int
  | [] => (0, 0)
  | s :: r => (dnR (f (mnS f s r)), upR (f (mxS f s r)))
theorem crS_ne {N : Nt} {p : Int} (h : crE N p ≠ 0) : crS N p = [] := by unfold crS; rw [if_neg h]
theorem crS_eq {N : Nt} {p : Int} (h : crE N p = 0) : crS N p = regS (bnds N p) ∧ regS (bnds N p) ≠ [] ∧ NtOk N := by
  refine ⟨by unfold crS; rw [if_pos h], (crE_ok.1 h).2, (brE_ok.1 (crE_ok.1 h).1).1⟩
theorem crS_sz {N : Nt} {p : Int} : ∀ s ∈ crS N p, SpSz s := by
  intro s hs
  unfold crS at hs
  split at hs
  · rename_i h
    exact regS_sz (bnds_sz (crS_eq h).2.2 p) hs
  · cases hs
theorem regS_len {N : Nt} {p : Int} (o : NtOk N) : (regS (bnds N p)).length ≤ 48 := by
  have h1 := Clip.cutsL_inv (bnds_sz o p) Clip.sqI_inv
  have h2 := bnds_len o p
  have e : regS (bnds N p) = Clip.turnS (Clip.ddS [] ((Clip.cutsL (bnds N p) Clip.sqI).map Co.s)) := by unfold regS Clip.regI; rw [Clip.cutsI_foldl]
  rw [e, Clip.turnS_len]
  have := Clip.ddS_len ((Clip.cutsL (bnds N p) Clip.sqI).map Co.s) []
  rw [List.length_map, List.length_nil] at this
  have e4 : Clip.sqI.length = 4 := rfl
  omega
theorem vc_Box (N : Nt) (p : Int) (h : Hp) (hn : N.ps.length ≤ 4000000) (hm : N.ss.length ≤ 4000000) : VC Try.prog 28 [vN N, I p] h (.tuple [vSpan (bxV Sp.X (crS N p)), vSpan (bxV Sp.Y (crS N p)), I (crE N p)]) h := by
  have c := fun h => vc_Corners N p h hn hm
  by_cases h0 : crE N p = 0
  · obtain ⟨e1, e2, o⟩ := crS_eq h0
    have hz := crS_sz (N := N) (p := p)
    have hl := regS_len (p := p) o
    rw [← e1] at e2 hl
    rw [h0] at c ⊢
    generalize crS N p = S at *
    cases S with
    | nil => exact absurd rfl e2
    | cons s r =>
      have zx : ∀ x ∈ s :: r, RtSz x.X := fun x hx => (hz x hx).rx
      have zy : ∀ x ∈ s :: r, RtSz x.Y := fun x hx => (hz x hx).ry
      have hr : r.length ≤ 4000000 := by rw [List.length_cons] at hl; omega
      have l1 := fun h => vc_least 108 Sp.X vc_east1 s r h hr zx
      have l2 := fun h => vc_greatest 108 Sp.X vc_east1 s r h hr zx
      have l3 := fun h => vc_least 112 Sp.Y vc_north1 s r h hr zy
      have l4 := fun h => vc_greatest 112 Sp.Y vc_north1 s r h hr zy
      have d1 := fun h => vc_down (mnS Sp.X s r).X h (zx _ mnS_mem)
      have d2 := fun h => vc_up (mxS Sp.X s r).X h (zx _ mxS_mem)
      have d3 := fun h => vc_down (mnS Sp.Y s r).Y h (zy _ mnS_mem)
      have d4 := fun h => vc_up (mxS Sp.Y s r).Y h (zy _ mxS_mem)
      unfold bxV
      dsimp only
      generalize mnS Sp.X s r = a1 at *
      generalize mxS Sp.X s r = a2 at *
      generalize mnS Sp.Y s r = a3 at *
      generalize mxS Sp.Y s r = a4 at *
      generalize dnR a1.X = b1 at *
      generalize upR a2.X = b2 at *
      generalize dnR a3.Y = b3 at *
      generalize upR a4.Y = b4 at *
      generalize s :: r = S at *
      refine VC.body Try.func28 rfl Try.ntmps28 Try.call28 (h.grows_refl) rfl ?_; conv => whnf
      repeat' (first | ((first | refine zs1 ?_ | refine zs2 ?_ | refine zs3 ?_ | refine zs4 ?_ | refine zs5 ?_); conv => whnf) | ((first | apply zi1 | apply zi2 | apply zi3 | apply zi4 | apply zi5) <;> intro _ <;> conv => whnf) | (refine VCall.intro (c _) ?_; conv => whnf) | (refine VCall.intro (vc_east _) ?_; conv => whnf) | (refine VCall.intro (vc_north _) ?_; conv => whnf) | (refine VCall.intro (l1 _) ?_; conv => whnf) | (refine VCall.intro (l2 _) ?_; conv => whnf) | (refine VCall.intro (l3 _) ?_; conv => whnf) | (refine VCall.intro (l4 _) ?_; conv => whnf) | (refine VCall.intro (d1 _) ?_; conv => whnf) | (refine VCall.intro (d2 _) ?_; conv => whnf) | (refine VCall.intro (d3 _) ?_; conv => whnf) | (refine VCall.intro (d4 _) ?_; conv => whnf))
      refine zs6 [(1, 2)] ?_
      conv => whnf
      repeat' (first | ((first | refine zs1 ?_ | refine zs2 ?_ | refine zs3 ?_ | refine zs4 ?_ | refine zs5 ?_); conv => whnf) | ((first | apply zi1 | apply zi2 | apply zi3 | apply zi4 | apply zi5) <;> intro _ <;> conv => whnf))
      exact VOut.same rfl
  · rw [crS_ne h0] at c ⊢
    generalize crE N p = E at c h0
    refine VC.body Try.func28 rfl Try.ntmps28 Try.call28 (h.grows_refl) rfl ?_; conv => whnf
    repeat' (first | ((first | refine zs1 ?_ | refine zs2 ?_ | refine zs3 ?_ | refine zs4 ?_ | refine zs5 ?_); conv => whnf) | ((first | apply zi1 | apply zi2 | apply zi3 | apply zi4 | apply zi5) <;> intro _ <;> conv => whnf) | (refine VCall.intro (c _) ?_; conv => whnf))
    · refine zs6 [(1, 3)] ?_
      conv => whnf
      repeat' (first | ((first | refine zs1 ?_ | refine zs2 ?_ | refine zs3 ?_ | refine zs4 ?_ | refine zs5 ?_); conv => whnf) | ((first | apply zi1 | apply zi2 | apply zi3 | apply zi4 | apply zi5) <;> intro _ <;> conv => whnf))
      exact VOut.same rfl
    · exfalso; omega
end Go.Proofs.Ytdlnjnfkbneibaa

open Go.Vm
open Clip (Pn Sg Nt Bd Rt Sp Co Pl NtOk chk chk_ok bnds bnds_sz bnds_len bnds_sq regS BdSz SpSz cmpR regS_sz okD okD_iff farS' farR rcStep rcS red)
namespace Go.Proofs.Ytdlnjnfkbneibaa
set_option maxRecDepth 20000
set_option maxHeartbeats 4000000

/-! ### How far a region reaches -/
structure FrSz (r : Rt) : Prop where
  n : -1000000000 ≤ r.N ∧ r.N ≤ 1000000000
  d : 1 ≤ r.D ∧ r.D ≤ 5000
theorem far_sz {bs : List Bd} {to : Pn} (hsq : ∀ b ∈ Clip.bsq, b ∈ bs) (hr : ∀ b ∈ bs, BdSz b) (ht : okD to = true) {s : Sp} (hs : s ∈ regS bs) : FrSz (farR to s) := by
  obtain ⟨_, a, ha, b, hb, hd, z1, z2⟩ := Clip.reg_corner hsq hr hs
  have ht := okD_iff.1 ht
  have hdet : Clip.det a.af b.af ≠ 0 := fun h => hd (Clip.det_zero.1 h)
  have e1 := Clip.meetP_uniq hdet z1 z2
  rw [← Clip.meetI_pt] at e1
  have hso := (regS_sz hr hs).ok
  have q1 := (Clip.farR_q (to := to) hso).1
  rw [e1] at q1
  have sz := Clip.meetI_sz (hr a ha) (hr b hb)
  have hx := Clip.mulb (x := to.x) (y := (Clip.meetI a b).x) (A := 50) (B := 10000000) ht.2.1 sz.1
  have hy := Clip.mulb (x := to.y) (y := (Clip.meetI a b).y) (A := 50) (B := 10000000) ht.2.2 sz.2.1
  generalize Clip.meetI a b = m at *
  have hd2 : s.X.D * s.Y.D ≠ 0 := Int.ne_of_gt (Int.mul_pos hso.x hso.y)
  have q2 : (red (to.x * m.x + to.y * m.y) m.d).q = (Clip.dirAf to).ev m.pt := by
    rw [Clip.red_q hd]
    have n1 := Clip.ne_cast hd
    unfold Clip.dirAf Clip.Af.ev Clip.Pl.pt
    simp only [Rat.intCast_add, Rat.intCast_mul]
    have h1 := Rat.div_mul_cancel (a := (m.x : Rat)) n1
    have h2 := Rat.div_mul_cancel (a := (m.y : Rat)) n1
    have h3 := Rat.div_mul_cancel (a := (to.x : Rat) * m.x + to.y * m.y) n1
    generalize (m.x : Rat) / m.d = P at *
    generalize (m.y : Rat) / m.d = Q at *
    generalize ((to.x : Rat) * m.x + to.y * m.y) / m.d = R at *
    have e : (R - (to.x * P + to.y * Q + 0)) * m.d = 0 := by grind
    rcases Rat.mul_eq_zero.1 e with h4 | h4
    · grind
    · exact absurd h4 n1
  have e : farR to s = red (to.x * m.x + to.y * m.y) m.d := by
    unfold farR at q1 ⊢
    exact Clip.red_uniq hd2 hd (q1.trans q2.symm)
  have := Clip.red_sz (n := to.x * m.x + to.y * m.y) (d := m.d) (N := 1000000000) (D := 5000) hd (by omega) (by omega)
  rw [e]
  exact ⟨this.1, this.2⟩
theorem far_bd {to : Pn} {s : Sp} (ht : okD to = true) (hs : SpSz s) : (-500000000 ≤ to.x * s.X.N ∧ to.x * s.X.N ≤ 500000000) ∧ (-500000000 ≤ to.y * s.Y.N ∧ to.y * s.Y.N ≤ 500000000) ∧ (-2500000000000 ≤ to.x * s.X.N * s.Y.D ∧ to.x * s.X.N * s.Y.D ≤ 2500000000000) ∧ (-2500000000000 ≤ to.y * s.Y.N * s.X.D ∧ to.y * s.Y.N * s.X.D ≤ 2500000000000) ∧ (-25000000 ≤ s.X.D * s.Y.D ∧ s.X.D * s.Y.D ≤ 25000000) ∧ s.X.D * s.Y.D ≠ 0 := by
  have ht := okD_iff.1 ht
  have xd := hs.xd
  have yd := hs.yd
  have h1 := Clip.mulb (x := to.x) (y := s.X.N) (A := 50) (B := 10000000) ht.2.1 hs.xn
  have h2 := Clip.mulb (x := to.y) (y := s.Y.N) (A := 50) (B := 10000000) ht.2.2 hs.yn
  have h3 := Clip.mulb (x := to.x * s.X.N) (y := s.Y.D) (A := 500000000) (B := 5000) (by omega) (by omega)
  have h4 := Clip.mulb (x := to.y * s.Y.N) (y := s.X.D) (A := 500000000) (B := 5000) (by omega) (by omega)
  have h5 := Clip.mulb (x := s.X.D) (y := s.Y.D) (A := 5000) (B := 5000) (by omega) (by omega)
  have h6 := Int.mul_pos (show 0 < s.X.D by omega) (show 0 < s.Y.D by omega)
  refine ⟨by omega, by omega, by omega, by omega, by omega, by omega⟩
def asE (N : Nt) (p : Int) (to : Pn) : Int := if brE N p ≠ 0 then brE N p else if okD to = true then (if regS (bnds N p) = [] then 8 else 0) else 4
theorem asE_ok {N : Nt} {p : Int} {to : Pn} : asE N p to = 0 ↔ brE N p = 0 ∧ okD to = true ∧ regS (bnds N p) ≠ [] := by
  unfold asE
  split
  · rename_i h; exact ⟨fun e => absurd e h, fun e => absurd e.1 h⟩
  · rename_i h
    split
    · rename_i ht
      split
      · rename_i h2; exact ⟨fun e => by omega, fun e => absurd h2 e.2.2⟩
      · rename_i h2; exact ⟨fun _ => ⟨Classical.not_not.1 h, ht, h2⟩, fun _ => rfl⟩
    · rename_i ht; exact ⟨fun e => by omega, fun e => absurd e.2.1 ht⟩
theorem vc_asked_ok (N : Nt) (p : Int) (to : Pn) (h : Hp) (h0 : asE N p to = 0) : VC Try.prog 85 [vN N, I p, vPn to] h (.tuple [.fp (encDk N p), bds (bnds N p), I 0]) h := by
  obtain ⟨b0, ht, hS⟩ := asE_ok.1 h0
  have o := (brE_ok.1 b0).1
  have hn := o.n
  have hm := o.m
  have c := fun h => vc_begun N p h (by omega) (by omega)
  have cT := fun h => vc_turned to h
  have cB := fun h => vc_bounds N p h o
  have cR := fun h => vc_region (bnds N p) h (by have := bnds_len o p; omega) (bnds_sz o p)
  have hl := List.length_pos_iff.2 hS
  rw [b0] at c
  rw [ht] at cT
  generalize bnds N p = bs at *
  generalize regS bs = S at *
  refine VC.body Try.func85 rfl Try.ntmps85 Try.call85 (h.grows_refl) rfl ?_; conv => whnf
  repeat' (first | ((first | refine zs1 ?_ | refine zs2 ?_ | refine zs3 ?_ | refine zs4 ?_ | refine zs5 ?_ | refine zs6 [] ?_); conv => whnf) | ((first | apply zi1 | apply zi2 | apply zi3 | apply zi4 | apply zi5) <;> intro _ <;> conv => whnf) | (refine VCall.intro (c _) ?_; conv => whnf) | (refine VCall.intro (cB _) ?_; conv => whnf) | (refine VCall.intro (cR _) ?_; conv => whnf) | (refine VCall.intro (cT _) ?_; conv => whnf))
  all_goals first | (exact VOut.same rfl) | (exfalso; omega)
theorem vc_asked_no (N : Nt) (p : Int) (to : Pn) (h : Hp) (hn : N.ps.length ≤ 4000000) (hm : N.ss.length ≤ 4000000) (h0 : asE N p to ≠ 0) : VC Try.prog 85 [vN N, I p, vPn to] h (.tuple [.nilptr, .nilslice, I (asE N p to)]) h := by
  have c := fun h => vc_begun N p h hn hm
  have cT := fun h => vc_turned to h
  by_cases b0 : brE N p = 0
  · have o := (brE_ok.1 b0).1
    rw [b0] at c
    cases ht : okD to
    · have e : asE N p to = 4 := by unfold asE; rw [if_neg (by omega), if_neg (by rw [ht]; decide)]
      rw [e]
      rw [ht] at cT
      refine VC.body Try.func85 rfl Try.ntmps85 Try.call85 (h.grows_refl) rfl ?_; conv => whnf
      repeat' (first | ((first | refine zs1 ?_ | refine zs2 ?_ | refine zs3 ?_ | refine zs4 ?_ | refine zs5 ?_ | refine zs6 [] ?_); conv => whnf) | ((first | apply zi1 | apply zi2 | apply zi3 | apply zi4 | apply zi5) <;> intro _ <;> conv => whnf) | (refine VCall.intro (c _) ?_; conv => whnf) | (refine VCall.intro (cT _) ?_; conv => whnf))
      all_goals first | (exact VOut.same rfl) | (exfalso; omega)
    · have hS : regS (bnds N p) = [] := Classical.byContradiction fun hS => h0 (asE_ok.2 ⟨b0, ht, hS⟩)
      have e : asE N p to = 8 := by unfold asE; rw [if_neg (by omega), if_pos ht, if_pos hS]
      have cB := fun h => vc_bounds N p h o
      have cR := fun h => vc_region (bnds N p) h (by have := bnds_len o p; omega) (bnds_sz o p)
      rw [hS] at cR
      rw [ht] at cT
      rw [e]
      generalize bnds N p = bs at *
      refine VC.body Try.func85 rfl Try.ntmps85 Try.call85 (h.grows_refl) rfl ?_; conv => whnf
      repeat' (first | ((first | refine zs1 ?_ | refine zs2 ?_ | refine zs3 ?_ | refine zs4 ?_ | refine zs5 ?_ | refine zs6 [] ?_); conv => whnf) | ((first | apply zi1 | apply zi2 | apply zi3 | apply zi4 | apply zi5) <;> intro _ <;> conv => whnf) | (refine VCall.intro (c _) ?_; conv => whnf) | (refine VCall.intro (cB _) ?_; conv => whnf) | (refine VCall.intro (cR _) ?_; conv => whnf) | (refine VCall.intro (cT _) ?_; conv => whnf))
      all_goals first | (exact VOut.same rfl) | (exfalso; omega)
  · have e : asE N p to = brE N p := by unfold asE; rw [if_pos b0]
    rw [e]
    generalize brE N p = E at *
    refine VC.body Try.func85 rfl Try.ntmps85 Try.call85 (h.grows_refl) rfl ?_; conv => whnf
    repeat' (first | ((first | refine zs1 ?_ | refine zs2 ?_ | refine zs3 ?_ | refine zs4 ?_ | refine zs5 ?_ | refine zs6 [] ?_); conv => whnf) | ((first | apply zi1 | apply zi2 | apply zi3 | apply zi4 | apply zi5) <;> intro _ <;> conv => whnf) | (refine VCall.intro (c _) ?_; conv => whnf))
    all_goals first | (exact VOut.same rfl) | (exfalso; omega)
def rcV (N : Nt) (p : Int) (to : Pn) : Rt := if asE N p to = 0 then rcS to ⟨0, 0⟩ (regS (bnds N p)) else ⟨0, 0⟩
theorem rcS_at {to : Pn} {r : Rt} {l : List Sp} {k : Nat} {s : Sp} (h : l[k]? = some s) : rcS to r (l.drop k) = rcS to (rcStep to r s) (l.drop (k + 1)) := by
  obtain ⟨hlt, rfl⟩ := List.getElem?_eq_some_iff.1 h
  rw [List.drop_eq_getElem_cons hlt, rcS]
theorem vc_Reach (N : Nt) (p : Int) (to : Pn) (h : Hp) (hn : N.ps.length ≤ 4000000) (hm : N.ss.length ≤ 4000000) : VC Try.prog 33 [vN N, I p, vPn to] h (.tuple [vRt (rcV N p to), I (asE N p to)]) h := by
  unfold rcV
  by_cases h0 : asE N p to = 0
  · obtain ⟨b0, ht, hS⟩ := asE_ok.1 h0
    have o := (brE_ok.1 b0).1
    have c := fun h => vc_asked_ok N p to h h0
    have cR := fun h => vc_region (bnds N p) h (by have := bnds_len o p; omega) (bnds_sz o p)
    have hl := regS_len (p := p) o
    have hz : ∀ s ∈ regS (bnds N p), SpSz s := fun s hs => regS_sz (bnds_sz o p) hs
    have hf : ∀ s ∈ regS (bnds N p), FrSz (farR to s) := fun s hs => far_sz (bnds_sq N p) (bnds_sz o p) ht hs
    rw [if_pos h0, h0]
    obtain ⟨E, hE⟩ : ∃ E, E = rcS to ⟨0, 0⟩ (regS (bnds N p)) := ⟨_, rfl⟩
    rw [← hE]
    generalize bnds N p = bs at *
    generalize regS bs = S at *
    have hE : E = rcS to ⟨0, 0⟩ (S.drop 0) := hE
    refine VC.body Try.func33 rfl Try.ntmps33 Try.call33 (h.grows_refl) rfl ?_; conv => whnf
    repeat' (first | ((first | refine zs1 ?_ | refine zs2 ?_ | refine zs3 ?_ | refine zs4 ?_ | refine zs5 ?_ | refine zs6 [] ?_); conv => whnf) | ((first | apply zi1 | apply zi2 | apply zi3 | apply zi4 | apply zi5) <;> intro _ <;> conv => whnf) | (refine VCall.intro (c _) ?_; conv => whnf) | (refine VCall.intro (cR _) ?_; conv => whnf))
    refine VCode.lp (fun y : Nat × Rt => [(5, .fp (encPn to)), (6, .ptr (.loc 0) 0), (7, I 0), (11, .ptr (.loc 1) 0), (28, sps S), (29, I S.length), (30, I y.1)]) (fun y => [.flat true [DI 0, DI 0], .flat true [DI y.2.N, DI y.2.D]]) (fun y => y.1 ≤ S.length ∧ ((-1000000000 ≤ y.2.N ∧ y.2.N ≤ 1000000000) ∧ (0 ≤ y.2.D ∧ y.2.D ≤ 5000)) ∧ E = rcS to y.2 (S.drop y.1)) (fun y => S.length - y.1) (0, ⟨0, 0⟩) ⟨Nat.zero_le _, by dsimp only; omega, hE⟩ ?_ ?_
    · conv => whnf
      refine Retell.turn ⟨[2,3], 4, [(1, encPn to)], []⟩ (TurnOk.mk' _ _ [(1, encPn to)] [] (OutOk.lift _) rfl (by decide) zb zf trivial rfl) zv zm
    · clear hE
      rintro ⟨k, r⟩ ⟨h1, h2, h3⟩
      dsimp only at h1 h2 h3
      conv => whnf
      refine VIte.dec (fun h5 => ?_) (fun h5 => ?_)
      · dsimp only at h5
        have hk : S[k]? = some S[k] := List.getElem?_eq_getElem (by omega)
        have sz := hz S[k] (List.getElem_mem (by omega))
        have sf := hf S[k] (List.getElem_mem (by omega))
        rw [rcS_at hk] at h3
        generalize S[k] = s at hk sz sf h3
        obtain ⟨z1, z2, z3, z4, z5, z6⟩ := far_bd ht sz
        have cQ := fun h => vc_ratio (farS' to s) (s.X.D * s.Y.D) h z6 (by omega) (by unfold farS'; omega)
        have eF : red (farS' to s) (s.X.D * s.Y.D) = farR to s := rfl
        rw [eF] at cQ
        unfold farS' at cQ
        unfold rcStep at h3
        generalize farR to s = f at *
        have m1 := Clip.mulb (x := f.N) (y := r.D) (A := 1000000000) (B := 5000) sf.n (by omega)
        have m2 := Clip.mulb (x := r.N) (y := f.D) (A := 1000000000) (B := 5000) h2.1 (by have := sf.d; omega)
        have sfn := sf.n
        have sfd := sf.d
        conv => whnf
        repeat' (first | ((first | refine zs1 ?_ | refine zs2 ?_ | refine zs3 ?_ | refine zs4 ?_ | refine zs5 ?_ | refine zs6 [] ?_); conv => whnf) | ((first | apply zi1 | apply zi2 | apply zi3 | apply zi4 | apply zi5) <;> intro _ <;> conv => whnf) | (refine VAny.ix encSp_len k rfl rfl hk ?_; conv => whnf) | (refine VCall.intro (cQ _) ?_; conv => whnf))
        · rename_i hD
          dsimp only at hD
          rw [if_pos (.inl hD)] at h3
          refine LEnd.intro (k + 1, f) ⟨by dsimp only; omega, by dsimp only; omega, h3⟩ (by dsimp only; omega) ?_
          conv => whnf
          refine Retell.turn ⟨[0,1], 4, [], []⟩ (TurnOk.mk' _ _ [] [] (OutOk.lift _) rfl (by decide) zb trivial trivial rfl) zv zm
        · rename_i hD hC
          dsimp only at hD hC
          rw [if_pos (.inr hC)] at h3
          refine LEnd.intro (k + 1, f) ⟨by dsimp only; omega, by dsimp only; omega, h3⟩ (by dsimp only; omega) ?_
          conv => whnf
          refine Retell.turn ⟨[0,1], 4, [], []⟩ (TurnOk.mk' _ _ [] [] (OutOk.lift _) rfl (by decide) zb trivial trivial rfl) zv zm
        · rename_i hD hC
          dsimp only at hD hC
          rw [if_neg (by omega)] at h3
          refine LEnd.intro (k + 1, r) ⟨by dsimp only; omega, by dsimp only; omega, h3⟩ (by dsimp only; omega) ?_
          conv => whnf
          refine Retell.turn ⟨[0,1], 4, [], []⟩ (TurnOk.mk' _ _ [] [] (OutOk.lift _) rfl (by decide) zb trivial trivial rfl) zv zm
      · rw [List.drop_of_length_le (by dsimp only at h5; omega), rcS] at h3
        subst h3
        conv => whnf
        repeat' (first | ((first | refine zs1 ?_ | refine zs2 ?_ | refine zs3 ?_ | refine zs4 ?_ | refine zs5 ?_ | refine zs6 [] ?_); conv => whnf) | ((first | apply zi1 | apply zi2 | apply zi3 | apply zi4 | apply zi5) <;> intro _ <;> conv => whnf))
        exact VOut.same rfl
  · have c := fun h => vc_asked_no N p to h hn hm h0
    rw [if_neg h0]
    generalize asE N p to = E at *
    refine VC.body Try.func33 rfl Try.ntmps33 Try.call33 (h.grows_refl) rfl ?_; conv => whnf
    repeat' (first | ((first | refine zs1 ?_ | refine zs2 ?_ | refine zs3 ?_ | refine zs4 ?_ | refine zs5 ?_ | refine zs6 [] ?_); conv => whnf) | ((first | apply zi1 | apply zi2 | apply zi3 | apply zi4 | apply zi5) <;> intro _ <;> conv => whnf) | (refine VCall.intro (c _) ?_; conv => whnf))
    all_goals first | (exact VOut.same rfl) | (exfalso; omega)
end Go.Proofs.Ytdlnjnfkbneibaa

open Go.Vm
open Clip (Pn Sg Nt Bd Rt Sp Co Pl NtOk chk chk_ok bnds bnds_sz bnds_len bnds_sq regS BdSz SpSz okD okD_iff red)
namespace Go.Proofs.Ytdlnjnfkbneibaa
set_option maxRecDepth 20000
set_option maxHeartbeats 4000000

/-! ### Proofs -/
structure Pf where
  bs : List Int
  ws : List Int
  t : Int
def encPf (p : Pf) : List D := [dints p.bs, dints p.ws, DI p.t]
def vPf (p : Pf) : V := .agg [ints p.bs, ints p.ws, I p.t]
def dBds (l : List Bd) : D := .sl 3 l.length (l.flatMap encBd)
def sumG : Bd → List Int → List Bd → Bd
  | s, w :: ws, b :: bs => sumG ⟨s.A + w * b.A, s.B + w * b.B, s.C + w * b.C⟩ ws bs
  | s, _, _ => s
theorem sumG_at {s : Bd} {ws : List Int} {bs : List Bd} {k : Nat} {w : Int} {b : Bd} (hw : ws[k]? = some w) (hb : bs[k]? = some b) : sumG s (ws.drop k) (bs.drop k) = sumG ⟨s.A + w * b.A, s.B + w * b.B, s.C + w * b.C⟩ (ws.drop (k + 1)) (bs.drop (k + 1)) := by
  obtain ⟨h1, rfl⟩ := List.getElem?_eq_some_iff.1 hw
  obtain ⟨h2, rfl⟩ := List.getElem?_eq_some_iff.1 hb
  rw [List.drop_eq_getElem_cons h1, List.drop_eq_getElem_cons h2, sumG]
theorem vc_sum (ws : List Int) (bs : List Bd) (h : Hp) (hl : ws.length = bs.length) (hn : bs.length ≤ 1000) (hw : ∀ w ∈ ws, -1000000 ≤ w ∧ w ≤ 1000000) (hb : ∀ b ∈ bs, BdSz b) : VC Try.prog 115 [ints ws, bds bs] h (vBd (sumG ⟨0, 0, 0⟩ ws bs)) h := by
  obtain ⟨E, hE⟩ : ∃ E, E = sumG ⟨0, 0, 0⟩ ws bs := ⟨_, rfl⟩
  rw [← hE]
  have hE : E = sumG ⟨0, 0, 0⟩ (ws.drop 0) (bs.drop 0) := hE
  refine VC.body Try.func115 rfl Try.ntmps115 Try.call115 (h.grows_refl) rfl ?_; conv => whnf
  repeat' (first | ((first | refine zs1 ?_ | refine zs2 ?_ | refine zs3 ?_ | refine zs4 ?_ | refine zs5 ?_ | refine zs6 [] ?_); conv => whnf) | ((first | apply zi1 | apply zi2 | apply zi3 | apply zi4 | apply zi5) <;> intro _ <;> conv => whnf))
  refine VCode.lp (fun y : Nat × Bd => [(0, ints ws), (4, .ptr (.loc 0) 0), (5, .ptr (.loc 1) 0), (9, bds bs), (10, I bs.length), (11, I y.1)]) (fun y => [.flat true [DI 0, DI 0, DI 0], .flat true (encBd y.2)]) (fun y => y.1 ≤ bs.length ∧ ((-100000000 * (y.1 : Int) ≤ y.2.A ∧ y.2.A ≤ 100000000 * (y.1 : Int)) ∧ (-100000000 * (y.1 : Int) ≤ y.2.B ∧ y.2.B ≤ 100000000 * (y.1 : Int)) ∧ (-100000000000 * (y.1 : Int) ≤ y.2.C ∧ y.2.C ≤ 100000000000 * (y.1 : Int))) ∧ E = sumG y.2 (ws.drop y.1) (bs.drop y.1)) (fun y => bs.length - y.1) (0, ⟨0, 0, 0⟩) ⟨Nat.zero_le _, by dsimp only; omega, hE⟩ ?_ ?_
  · conv => whnf
    refine Retell.turn ⟨[0,1], 2, [], []⟩ (TurnOk.mk' _ _ [] [] (OutOk.lift _) rfl (by decide) zb trivial trivial rfl) zv zm
  · clear hE
    rintro ⟨k, s⟩ ⟨h1, h2, h3⟩
    dsimp only at h1 h2 h3
    conv => whnf
    refine VIte.dec (fun h5 => ?_) (fun h5 => ?_)
    · dsimp only at h5
      have hk : bs[k]? = some bs[k] := List.getElem?_eq_getElem (by omega)
      have hv : ws[k]? = some (ws[k]'(by omega)) := List.getElem?_eq_getElem _
      have sb := hb bs[k] (List.getElem_mem (by omega))
      have sw := hw (ws[k]'(by omega)) (List.getElem_mem (by omega))
      rw [sumG_at hv hk] at h3
      generalize bs[k] = b at *
      generalize ws[k]'(by omega) = w at *
      have m1 := Clip.mulb (x := w) (y := b.A) (A := 1000000) (B := 50) sw sb.a
      have m2 := Clip.mulb (x := w) (y := b.B) (A := 1000000) (B := 50) sw sb.b'
      have m3 := Clip.mulb (x := w) (y := b.C) (A := 1000000) (B := 100000) sw sb.c
      conv => whnf
      repeat' (first | ((first | refine zs1 ?_ | refine zs2 ?_ | refine zs3 ?_ | refine zs4 ?_ | refine zs5 ?_ | refine zs6 [] ?_); conv => whnf) | ((first | apply zi1 | apply zi2 | apply zi3 | apply zi4 | apply zi5) <;> intro _ <;> conv => whnf) | (refine VAny.ix encBd_len k rfl rfl hk ?_; conv => whnf) | (refine VAny.ix encI_len k rfl rfl hv ?_; conv => whnf))
      refine LEnd.intro (k + 1, (⟨s.A + w * b.A, s.B + w * b.B, s.C + w * b.C⟩ : Bd)) ⟨by dsimp only; omega, by dsimp only; omega, h3⟩ (by dsimp only; omega) ?_
      conv => whnf
      refine Retell.turn ⟨[0,1], 3, [], []⟩ (TurnOk.mk' _ _ [] [] (OutOk.lift _) rfl (by decide) zb trivial trivial rfl) zv zm
    · rw [List.drop_of_length_le (by dsimp only at h5; omega), List.drop_of_length_le (by dsimp only at h5; omega), show sumG s [] [] = s from rfl] at h3
      subst h3
      conv => whnf
      repeat' (first | ((first | refine zs1 ?_ | refine zs2 ?_ | refine zs3 ?_ | refine zs4 ?_ | refine zs5 ?_ | refine zs6 [] ?_); conv => whnf) | ((first | apply zi1 | apply zi2 | apply zi3 | apply zi4 | apply zi5) <;> intro _ <;> conv => whnf))
      exact VOut.same rfl
def bAt (l : List Bd) (i : Int) : Bd := l.getD i.toNat ⟨0, 0, 0⟩
def totB (l : List Bd) (p : Pf) : Bd := sumG ⟨0, 0, 0⟩ p.ws (p.bs.map (bAt l))
def w01 (n : Int) : Bool := decide (0 ≤ n ∧ n ≤ 1000000)
def incB : List Int → Bool
  | a :: b :: r => decide (a < b) && incB (b :: r)
  | _ => true
theorem incB_at {l : List Int} {k : Nat} {a b : Int} (ha : l[k]? = some a) (hb : l[k + 1]? = some b) : incB (l.drop k) = (decide (a < b) && incB (l.drop (k + 1))) := by
  obtain ⟨h1, rfl⟩ := List.getElem?_eq_some_iff.1 ha
  obtain ⟨h2, rfl⟩ := List.getElem?_eq_some_iff.1 hb
  rw [List.drop_eq_getElem_cons h1, List.drop_eq_getElem_cons h2, incB]
theorem incB_end {l : List Int} {k : Nat} (h : l.length ≤ k + 1) : incB (l.drop k) = true := by
  rcases Nat.lt_or_ge k l.length with h1 | h1
  · rw [List.drop_eq_getElem_cons h1, List.drop_of_length_le h, incB]; simp
  · rw [List.drop_of_length_le h1, incB]; simp
def rgE (p : Pf) (n : Int) : Int := if ¬ (1 ≤ p.bs.length ∧ p.bs.length ≤ 3) ∨ p.ws.length ≠ p.bs.length then 3 else if p.bs.all (fun i => decide (0 ≤ i ∧ i ≤ n - 1)) = true then (if incB p.bs = true then (if p.ws.all w01 = true ∧ w01 p.t = true then 0 else 4) else 5) else 2
structure RgOk (p : Pf) (n : Int) : Prop where
  l : 1 ≤ p.bs.length ∧ p.bs.length ≤ 3
  m : p.ws.length = p.bs.length
  i : ∀ i ∈ p.bs, 0 ≤ i ∧ i ≤ n - 1
  o : incB p.bs = true
  w : ∀ w ∈ p.ws, 0 ≤ w ∧ w ≤ 1000000
  t : 0 ≤ p.t ∧ p.t ≤ 1000000
theorem rgE_ok {p : Pf} {n : Int} : rgE p n = 0 ↔ RgOk p n := by
  unfold rgE
  constructor
  · intro h
    split at h
    · omega
    · rename_i h1
      split at h
      · rename_i h2
        split at h
        · rename_i h3
          split at h
          · rename_i h4
            refine ⟨by omega, by omega, fun i hi => ?_, h3, fun w hw => ?_, ?_⟩
            · have := List.all_eq_true.1 h2 i hi; rwa [decide_eq_true_eq] at this
            · have := List.all_eq_true.1 h4.1 w hw; unfold w01 at this; rwa [decide_eq_true_eq] at this
            · have := h4.2; unfold w01 at this; rwa [decide_eq_true_eq] at this
          · omega
        · omega
      · omega
  · rintro ⟨a, b, c, d, e, f⟩
    rw [if_neg (by omega), if_pos (List.all_eq_true.2 fun i hi => by rw [decide_eq_true_eq]; exact c i hi), if_pos d, if_pos ⟨List.all_eq_true.2 fun w hw => by unfold w01; rw [decide_eq_true_eq]; exact e w hw, by unfold w01; rw [decide_eq_true_eq]; exact f⟩]
theorem map_at {l : List Int} {bs : List Bd} {k : Nat} {i : Int} (h : l[k]? = some i) : (l.take (k + 1)).map (bAt bs) = (l.take k).map (bAt bs) ++ [bAt bs i] := by
  rw [List.take_add_one, h, List.map_append]; rfl
theorem bAt_get {bs : List Bd} {i : Int} {b : Bd} (h : bs[i.toNat]? = some b) : bAt bs i = b := by unfold bAt; rw [List.getD_eq_getElem?_getD, h]; rfl
theorem vc_total (p : Pf) (l : List Bd) (h : Hp) (hp : RgOk p l.length) (hb : ∀ b ∈ l, BdSz b) : VC Try.prog 92 [vPf p, bds l] h (vBd (totB l p)) h := by
  have hs := fun h => vc_sum p.ws (p.bs.map (bAt l)) h (by rw [List.length_map]; exact hp.m) (by rw [List.length_map]; have := hp.l; omega) (fun w hw => by have := hp.w w hw; omega) (fun b hb' => by
    obtain ⟨i, hi, rfl⟩ := List.mem_map.1 hb'
    have := hp.i i hi
    have hk : l[i.toNat]? = some (l[i.toNat]'(by omega)) := List.getElem?_eq_getElem _
    rw [bAt_get hk]; exact hb _ (List.getElem_mem _))
  obtain ⟨E, hE⟩ : ∃ E, E = totB l p := ⟨_, rfl⟩
  have e : sumG ⟨0, 0, 0⟩ p.ws (p.bs.map (bAt l)) = E := hE.symm
  rw [← hE]
  rw [e] at hs
  have hpl := hp.l
  refine VC.body Try.func92 rfl Try.ntmps92 Try.call92 (h.grows_refl) rfl ?_; conv => whnf
  repeat' (first | ((first | refine zs1 ?_ | refine zs2 ?_ | refine zs3 ?_ | refine zs4 ?_ | refine zs5 ?_ | refine zs6 [] ?_); conv => whnf) | ((first | apply zi1 | apply zi2 | apply zi3 | apply zi4 | apply zi5) <;> intro _ <;> conv => whnf))
  refine VCode.lp (fun y : Nat => [(1, bds l), (2, .fp (encPf p)), (4, .ptr (.loc 0) 0), (5, .gl (.loc 1) 3 ((p.bs.take y).map (bAt l)).length), (9, ints p.bs), (10, I p.bs.length), (11, I y)]) (fun y => [.flat true [DI 0, DI 0, DI 0], .flat true (((p.bs.take y).map (bAt l)).flatMap encBd)]) (fun y => y ≤ p.bs.length) (fun y => p.bs.length - y) 0 (Nat.zero_le _) ?_ ?_
  · conv => whnf
    refine Retell.turn ⟨[1,2], 2, [(0, encPf p)], []⟩ (TurnOk.mk' _ _ [(0, encPf p)] [] (OutOk.lift _) rfl (by decide) zb zf trivial rfl) zv zm
  · intro k h1
    conv => whnf
    refine VIte.dec (fun h5 => ?_) (fun h5 => ?_)
    · have hk : p.bs[k]? = some p.bs[k] := List.getElem?_eq_getElem (by omega)
      have hi := hp.i p.bs[k] (List.getElem_mem (by omega))
      have hm := map_at (bs := l) hk
      generalize p.bs[k] = i at hk hi hm
      have hbk : l[i.toNat]? = some (l[i.toNat]'(by omega)) := List.getElem?_eq_getElem _
      rw [bAt_get hbk] at hm
      generalize l[i.toNat]'(by omega) = b at hbk hm
      have hlen : ((p.bs.take k).map (bAt l)).length = k := by rw [List.length_map, List.length_take]; omega
      generalize (p.bs.take k).map (bAt l) = W at hm hlen
      conv => whnf
      repeat' (first | ((first | refine zs1 ?_ | refine zs2 ?_ | refine zs3 ?_ | refine zs4 ?_ | refine zs5 ?_ | refine zs6 [] ?_); conv => whnf) | ((first | apply zi1 | apply zi2 | apply zi3 | apply zi4 | apply zi5) <;> intro _ <;> conv => whnf) | (refine VAny.ix encI_len k rfl rfl hk ?_; conv => whnf) | (refine VAny.ix encBd_len i.toNat (by omega) rfl hbk ?_; conv => whnf))
      refine VMem.app1 (l := W) b encBd_len rfl rfl rfl rfl rfl (by omega) ?_
      conv => whnf
      repeat' (first | ((first | refine zs1 ?_ | refine zs2 ?_ | refine zs3 ?_ | refine zs4 ?_ | refine zs5 ?_ | refine zs6 [] ?_); conv => whnf) | ((first | apply zi1 | apply zi2 | apply zi3 | apply zi4 | apply zi5) <;> intro _ <;> conv => whnf))
      refine LEnd.intro (k + 1) (by omega) (by omega) ?_
      rw [hm]
      conv => whnf
      rw [List.length_append]
      refine Retell.turn ⟨[0,3], 4, [], []⟩ (TurnOk.mk' _ _ [] [] (OutOk.lift _) rfl (by decide) zb trivial trivial rfl) zv zm
    · have hk2 : k = p.bs.length := by omega
      subst hk2
      rw [List.take_length]
      conv => whnf
      repeat' (first | ((first | refine zs1 ?_ | refine zs2 ?_ | refine zs3 ?_ | refine zs4 ?_ | refine zs5 ?_ | refine zs6 [] ?_); conv => whnf) | ((first | apply zi1 | apply zi2 | apply zi3 | apply zi4 | apply zi5) <;> intro _ <;> conv => whnf))
      generalize p.bs.map (bAt l) = W at hs
      refine VCall.intro (VC.give (args' := [ints p.ws, bds W]) (loc' := [.flat true [DI 0, DI 0, DI 0], .dead]) [(1, W.flatMap encBd)] [] (OutOk.lift _) zb zf (by exact FmAll.nil) rfl zv (hs _)) ?_
      conv => whnf
      repeat' (first | ((first | refine zs1 ?_ | refine zs2 ?_ | refine zs3 ?_ | refine zs4 ?_ | refine zs5 ?_ | refine zs6 [] ?_); conv => whnf) | ((first | apply zi1 | apply zi2 | apply zi3 | apply zi4 | apply zi5) <;> intro _ <;> conv => whnf))
      exact VOut.same rfl
theorem vc_rg1 (n : Int) (h : Hp) : VC Try.prog 116 ([I n] ++ D.vs []) h (B (w01 n)) h := by
  have c := fun h => vc_from n 0 1000000 h
  refine VC.body Try.func116 rfl Try.ntmps116 Try.call116 (h.grows_refl) rfl ?_; conv => whnf
  repeat' (first | ((first | refine zs1 ?_ | refine zs2 ?_ | refine zs3 ?_ | refine zs4 ?_ | refine zs5 ?_ | refine zs6 [] ?_); conv => whnf) | ((first | apply zi1 | apply zi2 | apply zi3 | apply zi4 | apply zi5) <;> intro _ <;> conv => whnf) | (refine VCall.intro (c _) ?_; conv => whnf))
  exact VOut.same rfl
theorem vc_rg2 (n : Int) (l : List Bd) (h : Hp) (hn : l.length ≤ 4000000) : VC Try.prog 117 ([I n] ++ D.vs [.pt [dBds l]]) h (B (decide (0 ≤ n ∧ n ≤ (l.length : Int) - 1))) h := by
  have c := fun h => vc_from n 0 ((l.length : Int) - 1) h
  refine VC.body Try.func117 rfl Try.ntmps117 Try.call117 (h.grows_refl) rfl ?_; conv => whnf
  repeat' (first | ((first | refine zs1 ?_ | refine zs2 ?_ | refine zs3 ?_ | refine zs4 ?_ | refine zs5 ?_ | refine zs6 [] ?_); conv => whnf) | ((first | apply zi1 | apply zi2 | apply zi3 | apply zi4 | apply zi5) <;> intro _ <;> conv => whnf) | (refine VCall.intro (c _) ?_; conv => whnf))
  exact VOut.same rfl
theorem vc_right (p : Pf) (l : List Bd) (h : Hp) (hn : l.length ≤ 4000000) (hb : p.bs.length ≤ 4000000) (hw : p.ws.length ≤ 4000000) : VC Try.prog 93 [vPf p, bds l] h (I (rgE p l.length)) h := by
  have cI := fun h => vc_allI1c p.bs (fun i => decide (0 ≤ i ∧ i ≤ (l.length : Int) - 1)) 117 [dBds l] hb (fun e he h => vc_rg2 e l h hn) h
  have cW := fun h => vc_allI0 p.ws w01 116 hw (fun e he h => vc_rg1 e h) h
  have cT := fun h => vc_rg1 p.t h
  obtain ⟨E, hE⟩ : ∃ E, E = rgE p l.length := ⟨_, rfl⟩
  rw [← hE]
  unfold rgE at hE
  generalize p.bs.all (fun i => decide (0 ≤ i ∧ i ≤ (l.length : Int) - 1)) = A at *
  generalize p.ws.all w01 = W at *
  generalize w01 p.t = T at *
  obtain ⟨O, hO⟩ : ∃ O, O = incB p.bs := ⟨_, rfl⟩
  rw [← hO] at hE
  have hO : O = incB (p.bs.drop 0) := hO
  have cF := fun h => vc_from (p.bs.length : Int) 1 3 h
  refine VC.bodyC 2 Try.func93 rfl Try.ntmps93 Try.call93 (h.grows_refl) rfl ?_; conv => whnf
  repeat' (first | ((first | refine zs1 ?_ | refine zs2 ?_ | refine zs3 ?_ | refine zs4 ?_ | refine zs5 ?_); conv => whnf) | ((first | apply zi1 | apply zi2 | apply zi3 | apply zi4 | apply zi5) <;> intro _ <;> conv => whnf))
  refine VCut.at' 99 [(2, .fp (encPf p)), (3, .fp [dBds l]), (4, I 0), (5, .func (.func 116) [] [])] [] ?_ ?_
  · conv => whnf
    refine Retell.turn ⟨[], 2, [(0, encPf p), (1, [dBds l])], []⟩ (TurnOk.mk' _ _ [(0, encPf p), (1, [dBds l])] [] (OutOk.lift _) rfl (by decide) zb zf trivial rfl) zv zm
  conv => whnf
  repeat' (first | ((first | refine zs1 ?_ | refine zs2 ?_ | refine zs3 ?_ | refine zs4 ?_ | refine zs5 ?_); conv => whnf) | ((first | apply zi1 | apply zi2 | apply zi3 | apply zi4 | apply zi5) <;> intro _ <;> conv => whnf) | (refine VCall.intro (cF _) ?_; conv => whnf) | (refine VCall.intro (cI _) ?_; conv => whnf))
  · rw [if_pos (by omega)] at hE
    rw [hE]
    exact VOut.same rfl
  · rw [if_pos (by omega)] at hE
    rw [hE]
    exact VOut.same rfl
  · rename_i hA
    rw [if_neg (by omega), if_neg (by cases A <;> simp at *)] at hE
    rw [hE]
    exact VOut.same rfl
  · rename_i hA
    rw [if_neg (by omega), if_pos (by cases A <;> simp at *)] at hE
    refine VCode.lp (fun j : Nat => [(2, .fp (encPf p)), (3, .fp [dBds l]), (4, I 0), (5, .func (.func 116) [] []), (6, I ((j : Int) + 1))]) (fun _ => []) (fun j => j + 1 ≤ p.bs.length ∧ O = incB (p.bs.drop j)) (fun j => p.bs.length - j) 0 ⟨by omega, hO⟩ ?_ ?_
    · conv => whnf
      refine Retell.turn ⟨[], 0, [], []⟩ (TurnOk.mk' _ _ [] [] (OutOk.lift _) rfl (by decide) zb trivial trivial rfl) zv zm
    · clear hO
      rintro k ⟨h1, hO⟩
      conv => whnf
      repeat' (first | ((first | refine zs1 ?_ | refine zs2 ?_ | refine zs3 ?_ | refine zs4 ?_ | refine zs5 ?_); conv => whnf) | ((first | apply zi1 | apply zi2 | apply zi3 | apply zi4 | apply zi5) <;> intro _ <;> conv => whnf))
      · rename_i h5
        have ha : p.bs[k]? = some p.bs[k] := List.getElem?_eq_getElem (by omega)
        have hb' : p.bs[k + 1]? = some (p.bs[k + 1]'(by omega)) := List.getElem?_eq_getElem _
        rw [incB_at ha hb'] at hO
        generalize p.bs[k] = a at ha hO
        generalize p.bs[k + 1]'(by omega) = b at hb' hO
        conv => whnf
        repeat' (first | ((first | refine zs1 ?_ | refine zs2 ?_ | refine zs3 ?_ | refine zs4 ?_ | refine zs5 ?_); conv => whnf) | ((first | apply zi1 | apply zi2 | apply zi3 | apply zi4 | apply zi5) <;> intro _ <;> conv => whnf))
        refine zs6 [] ?_
        conv => whnf
        repeat' (first | ((first | refine zs1 ?_ | refine zs2 ?_ | refine zs3 ?_ | refine zs4 ?_ | refine zs5 ?_); conv => whnf) | ((first | apply zi1 | apply zi2 | apply zi3 | apply zi4 | apply zi5) <;> intro _ <;> conv => whnf) | (refine VAny.ix encI_len (k + 1) (by omega) rfl hb' ?_; conv => whnf) | (refine VAny.ix encI_len k (by omega) rfl ha ?_; conv => whnf))
        · rename_i hc
          rw [decide_eq_false (show ¬ a < b by omega), Bool.false_and] at hO
          subst hO
          simp only [Bool.false_eq_true, if_false] at hE
          rw [hE]
          exact VOut.same rfl
        · rename_i hc
          rw [decide_eq_true (show a < b by omega), Bool.true_and] at hO
          refine LEnd.intro (k + 1) ⟨by omega, hO⟩ (by omega) ?_
          conv => whnf
          refine Retell.turn ⟨[], 0, [], []⟩ (TurnOk.mk' _ _ [] [] (OutOk.lift _) rfl (by decide) zb trivial trivial rfl) zv zm
      · rename_i h5
        rw [incB_end (by omega)] at hO
        subst hO
        rw [if_pos rfl] at hE
        conv => whnf
        repeat' (first | ((first | refine zs1 ?_ | refine zs2 ?_ | refine zs3 ?_ | refine zs4 ?_ | refine zs5 ?_); conv => whnf) | ((first | apply zi1 | apply zi2 | apply zi3 | apply zi4 | apply zi5) <;> intro _ <;> conv => whnf) | (refine VCall.intro (cW _) ?_; conv => whnf) | (refine VCall.intro (cT _) ?_; conv => whnf))
        all_goals (subst hE; cases W <;> cases T <;> first | (exact VOut.same rfl) | (exfalso; simp at *; done))
end Go.Proofs.Ytdlnjnfkbneibaa

open Go.Vm
open Clip (Pn Sg Nt Bd Rt Sp Co Pl NtOk chk chk_ok bnds bnds_sz bnds_len bnds_sq regS BdSz SpSz okD okD_iff red)
namespace Go.Proofs.Ytdlnjnfkbneibaa
set_option maxRecDepth 20000
set_option maxHeartbeats 4000000

theorem vne49 (a b c d e f : Int) : vaggeq Try.prog .neq 49 (.agg [I a, I b, I c]) (.agg [I d, I e, I f]) = some (B (decide (¬ (a = d ∧ b = e ∧ c = f)))) := by
  have : (!((a == d) && ((b == e) && ((c == f) && true)))) = decide (¬ (a = d ∧ b = e ∧ c = f)) := by
    rw [Bool.eq_iff_iff, decide_eq_true_eq]; simp [-not_and]; omega
  rw [← this]
  unfold vaggeq
  rw [show eqTop Try.prog 49 = some (Sh.cons 0 1 false Sh.int (Sh.cons 1 1 false Sh.int (Sh.cons 2 1 false Sh.int Sh.nil))) by kernel_rfl]
  rfl
theorem totB_sz {l : List Bd} {p : Pf} (hp : RgOk p l.length) (hb : ∀ b ∈ l, BdSz b) : (-1000000000 ≤ (totB l p).A ∧ (totB l p).A ≤ 1000000000) ∧ (-1000000000 ≤ (totB l p).B ∧ (totB l p).B ≤ 1000000000) ∧ (-1000000000000 ≤ (totB l p).C ∧ (totB l p).C ≤ 1000000000000) := by
  have key : ∀ (ws : List Int) (bs : List Bd) (s : Bd) (k : Int), (∀ w ∈ ws, -1000000 ≤ w ∧ w ≤ 1000000) → (∀ b ∈ bs, BdSz b) → ((-100000000 * k ≤ s.A ∧ s.A ≤ 100000000 * k) ∧ (-100000000 * k ≤ s.B ∧ s.B ≤ 100000000 * k) ∧ (-100000000000 * k ≤ s.C ∧ s.C ≤ 100000000000 * k)) → 0 ≤ k →
      (-100000000 * (k + bs.length) ≤ (sumG s ws bs).A ∧ (sumG s ws bs).A ≤ 100000000 * (k + bs.length)) ∧ (-100000000 * (k + bs.length) ≤ (sumG s ws bs).B ∧ (sumG s ws bs).B ≤ 100000000 * (k + bs.length)) ∧ (-100000000000 * (k + bs.length) ≤ (sumG s ws bs).C ∧ (sumG s ws bs).C ≤ 100000000000 * (k + bs.length)) := by
    intro ws
    induction ws with
    | nil => intro bs s k _ _ h hk; have e : sumG s [] bs = s := by cases bs <;> rfl
             rw [e]; omega
    | cons w ws ih =>
      intro bs s k hw hbs h hk
      cases bs with
      | nil => have e : sumG s (w :: ws) [] = s := rfl
               rw [e]; simp only [List.length_nil]; omega
      | cons b bs =>
        have sw := hw w (by simp)
        have sb := hbs b (by simp)
        have m1 := Clip.mulb (x := w) (y := b.A) (A := 1000000) (B := 50) sw sb.a
        have m2 := Clip.mulb (x := w) (y := b.B) (A := 1000000) (B := 50) sw sb.b'
        have m3 := Clip.mulb (x := w) (y := b.C) (A := 1000000) (B := 100000) sw sb.c
        have := ih bs ⟨s.A + w * b.A, s.B + w * b.B, s.C + w * b.C⟩ (k + 1) (fun w hw' => hw w (List.mem_cons_of_mem _ hw')) (fun b hb' => hbs b (List.mem_cons_of_mem _ hb')) (by dsimp only; omega) (by omega)
        rw [sumG, List.length_cons]
        have e : (k : Int) + 1 + (bs.length : Int) = k + ((bs.length + 1 : Nat) : Int) := by omega
        rw [e] at this
        exact this
  have := key p.ws (p.bs.map (bAt l)) ⟨0, 0, 0⟩ 0 (fun w hw => by have := hp.w w hw; omega) (fun b hb' => by
    obtain ⟨i, hi, rfl⟩ := List.mem_map.1 hb'
    have := hp.i i hi
    have hk : l[i.toNat]? = some (l[i.toNat]'(by omega)) := List.getElem?_eq_getElem _
    rw [bAt_get hk]; exact hb _ (List.getElem_mem _)) (by dsimp only; omega) (by omega)
  rw [List.length_map] at this
  have hl := hp.l
  unfold totB
  omega
def prE (N : Nt) (p : Int) (to : Pn) (f : Pf) : Int := if brE N p ≠ 0 then brE N p else if okD to = true then (if rgE f (bnds N p).length ≠ 0 then rgE f (bnds N p).length else if f.t < 1 ∨ ¬ ((totB (bnds N p) f).A = f.t * to.x ∧ (totB (bnds N p) f).B = f.t * to.y) then 9 else 0) else 4
def prV (N : Nt) (p : Int) (to : Pn) (f : Pf) : Rt := if prE N p to f = 0 then red (totB (bnds N p) f).C f.t else ⟨0, 0⟩
theorem vc_Proves (N : Nt) (p : Int) (to : Pn) (f : Pf) (h : Hp) (hn : N.ps.length ≤ 4000000) (hm : N.ss.length ≤ 4000000) (h1 : f.bs.length ≤ 4000000) (h2 : f.ws.length ≤ 4000000) : VC Try.prog 49 [vN N, I p, vPn to, vPf f] h (.tuple [vRt (prV N p to f), I (prE N p to f)]) h := by
  have c := fun h => vc_begun N p h hn hm
  have cT := fun h => vc_turned to h
  obtain ⟨E, hE⟩ : ∃ E, E = prE N p to f := ⟨_, rfl⟩
  obtain ⟨R, hR⟩ : ∃ R, R = prV N p to f := ⟨_, rfl⟩
  rw [← hE, ← hR]
  unfold prV at hR
  rw [← hE] at hR
  unfold prE at hE
  by_cases b0 : brE N p = 0
  · have o := (brE_ok.1 b0).1
    rw [b0] at c
    rw [if_neg (by omega)] at hE
    cases ht : okD to
    · rw [ht] at cT hE
      rw [if_neg (by decide)] at hE
      subst hE
      rw [if_neg (by decide)] at hR
      subst hR
      refine VC.body Try.func49 rfl Try.ntmps49 Try.call49 (h.grows_refl) rfl ?_; conv => whnf
      repeat' (first | ((first | refine zs1 ?_ | refine zs2 ?_ | refine zs3 ?_ | refine zs4 ?_ | refine zs5 ?_ | refine zs6 [] ?_); conv => whnf) | ((first | apply zi1 | apply zi2 | apply zi3 | apply zi4 | apply zi5) <;> intro _ <;> conv => whnf) | (refine VCall.intro (c _) ?_; conv => whnf) | (refine VCall.intro (cT _) ?_; conv => whnf))
      all_goals first | (exact VOut.same rfl) | (exfalso; omega)
    · rw [ht] at cT hE
      rw [if_pos rfl] at hE
      have cB := fun h => vc_bounds N p h o
      have hz := bnds_sz o p
      have hln := bnds_len o p
      have cG := fun h => vc_right f (bnds N p) h (by omega) h1 h2
      generalize bnds N p = bs at *
      by_cases g0 : rgE f bs.length = 0
      · have go := rgE_ok.1 g0
        have cS := fun h => vc_total f bs h go hz
        have tz := totB_sz go hz
        have t0 := okD_iff.1 ht
        have ft := go.t
        have m1 := Clip.mulb (x := f.t) (y := to.x) (A := 1000000) (B := 50) (by omega) t0.2.1
        have m2 := Clip.mulb (x := f.t) (y := to.y) (A := 1000000) (B := 50) (by omega) t0.2.2
        rw [g0] at cG
        rw [if_neg (by omega)] at hE
        generalize totB bs f = s at *
        by_cases hbad : f.t < 1 ∨ ¬ (s.A = f.t * to.x ∧ s.B = f.t * to.y)
        · rw [if_pos hbad] at hE
          subst hE
          rw [if_neg (by decide)] at hR
          subst hR
          refine VC.body Try.func49 rfl Try.ntmps49 Try.call49 (h.grows_refl) rfl ?_; conv => whnf
          repeat' (first | ((first | refine zs1 ?_ | refine zs2 ?_ | refine zs3 ?_ | refine zs4 ?_ | refine zs5 ?_ | refine zs6 [] ?_); conv => whnf) | ((first | apply zi1 | apply zi2 | apply zi3 | apply zi4 | apply zi5) <;> intro _ <;> conv => whnf) | (refine VCall.intro (c _) ?_; conv => whnf) | (refine VCall.intro (cT _) ?_; conv => whnf) | (refine VCall.intro (cB _) ?_; conv => whnf) | (refine VCall.intro (cG _) ?_; conv => whnf) | (refine VCall.intro (cS _) ?_; conv => whnf) | (refine VAgg.intro (vne49 _ _ _ _ _ _) ?_; conv => whnf))
          all_goals first | (exact VOut.same rfl) | (exfalso; omega)
        · rw [if_neg hbad] at hE
          subst hE
          rw [if_pos rfl] at hR
          subst hR
          have cQ := fun h => vc_ratio s.C f.t h (by omega) (by omega) (by omega)
          generalize red s.C f.t = Q at *
          refine VC.body Try.func49 rfl Try.ntmps49 Try.call49 (h.grows_refl) rfl ?_; conv => whnf
          repeat' (first | ((first | refine zs1 ?_ | refine zs2 ?_ | refine zs3 ?_ | refine zs4 ?_ | refine zs5 ?_ | refine zs6 [] ?_); conv => whnf) | ((first | apply zi1 | apply zi2 | apply zi3 | apply zi4 | apply zi5) <;> intro _ <;> conv => whnf) | (refine VCall.intro (c _) ?_; conv => whnf) | (refine VCall.intro (cT _) ?_; conv => whnf) | (refine VCall.intro (cB _) ?_; conv => whnf) | (refine VCall.intro (cG _) ?_; conv => whnf) | (refine VCall.intro (cS _) ?_; conv => whnf) | (refine VCall.intro (cQ _) ?_; conv => whnf) | (refine VAgg.intro (vne49 _ _ _ _ _ _) ?_; conv => whnf))
          all_goals first | (exact VOut.same rfl) | (exfalso; omega)
      · rw [if_pos g0] at hE
        subst hE
        rw [if_neg g0] at hR
        subst hR
        generalize rgE f bs.length = G at *
        refine VC.body Try.func49 rfl Try.ntmps49 Try.call49 (h.grows_refl) rfl ?_; conv => whnf
        repeat' (first | ((first | refine zs1 ?_ | refine zs2 ?_ | refine zs3 ?_ | refine zs4 ?_ | refine zs5 ?_ | refine zs6 [] ?_); conv => whnf) | ((first | apply zi1 | apply zi2 | apply zi3 | apply zi4 | apply zi5) <;> intro _ <;> conv => whnf) | (refine VCall.intro (c _) ?_; conv => whnf) | (refine VCall.intro (cT _) ?_; conv => whnf) | (refine VCall.intro (cB _) ?_; conv => whnf) | (refine VCall.intro (cG _) ?_; conv => whnf))
        all_goals first | (exact VOut.same rfl) | (exfalso; omega)
  · rw [if_pos b0] at hE
    rw [hE, if_neg b0] at hR
    subst hR
    subst hE
    generalize brE N p = E at *
    refine VC.body Try.func49 rfl Try.ntmps49 Try.call49 (h.grows_refl) rfl ?_; conv => whnf
    repeat' (first | ((first | refine zs1 ?_ | refine zs2 ?_ | refine zs3 ?_ | refine zs4 ?_ | refine zs5 ?_ | refine zs6 [] ?_); conv => whnf) | ((first | apply zi1 | apply zi2 | apply zi3 | apply zi4 | apply zi5) <;> intro _ <;> conv => whnf) | (refine VCall.intro (c _) ?_; conv => whnf))
    all_goals first | (exact VOut.same rfl) | (exfalso; omega)
def rfE (N : Nt) (p : Int) (f : Pf) : Int := if brE N p ≠ 0 then brE N p else rgE f (bnds N p).length
def rfB (N : Nt) (p : Int) (f : Pf) : Bool := if rfE N p f = 0 then decide (f.t = 0 ∧ (totB (bnds N p) f).A = 0 ∧ (totB (bnds N p) f).B = 0 ∧ (totB (bnds N p) f).C < 0) else false
theorem vc_Refutes (N : Nt) (p : Int) (f : Pf) (h : Hp) (hn : N.ps.length ≤ 4000000) (hm : N.ss.length ≤ 4000000) (h1 : f.bs.length ≤ 4000000) (h2 : f.ws.length ≤ 4000000) : VC Try.prog 55 [vN N, I p, vPf f] h (.tuple [B (rfB N p f), I (rfE N p f)]) h := by
  have c := fun h => vc_begun N p h hn hm
  obtain ⟨E, hE⟩ : ∃ E, E = rfE N p f := ⟨_, rfl⟩
  obtain ⟨R, hR⟩ : ∃ R, R = rfB N p f := ⟨_, rfl⟩
  rw [← hE, ← hR]
  unfold rfB at hR
  rw [← hE] at hR
  unfold rfE at hE
  by_cases b0 : brE N p = 0
  · have o := (brE_ok.1 b0).1
    rw [b0] at c
    rw [if_neg (by omega)] at hE
    have cB := fun h => vc_bounds N p h o
    have hz := bnds_sz o p
    have hln := bnds_len o p
    have cG := fun h => vc_right f (bnds N p) h (by omega) h1 h2
    generalize bnds N p = bs at *
    by_cases g0 : rgE f bs.length = 0
    · have go := rgE_ok.1 g0
      have cS := fun h => vc_total f bs h go hz
      rw [g0] at cG hE
      rw [hE, if_pos rfl] at hR
      subst hE
      generalize totB bs f = s at *
      subst hR
      refine VC.body Try.func55 rfl Try.ntmps55 Try.call55 (h.grows_refl) rfl ?_; conv => whnf
      repeat' (first | ((first | refine zs1 ?_ | refine zs2 ?_ | refine zs3 ?_ | refine zs4 ?_ | refine zs5 ?_ | refine zs6 [] ?_); conv => whnf) | ((first | apply zi1 | apply zi2 | apply zi3 | apply zi4 | apply zi5) <;> intro _ <;> conv => whnf) | (refine VCall.intro (c _) ?_; conv => whnf) | (refine VCall.intro (cB _) ?_; conv => whnf) | (refine VCall.intro (cG _) ?_; conv => whnf) | (refine VCall.intro (cS _) ?_; conv => whnf))
      · rw [show decide (f.t = 0 ∧ s.A = 0 ∧ s.B = 0 ∧ s.C < 0) = decide (s.C < 0) from decide_eq_decide.2 (by omega)]
        exact VOut.same rfl
      all_goals (rw [decide_eq_false (show ¬ (f.t = 0 ∧ s.A = 0 ∧ s.B = 0 ∧ s.C < 0) by omega)]
                 exact VOut.same rfl)
    · rw [hE, if_neg g0] at hR
      subst hR
      subst hE
      generalize rgE f bs.length = G at *
      refine VC.body Try.func55 rfl Try.ntmps55 Try.call55 (h.grows_refl) rfl ?_; conv => whnf
      repeat' (first | ((first | refine zs1 ?_ | refine zs2 ?_ | refine zs3 ?_ | refine zs4 ?_ | refine zs5 ?_ | refine zs6 [] ?_); conv => whnf) | ((first | apply zi1 | apply zi2 | apply zi3 | apply zi4 | apply zi5) <;> intro _ <;> conv => whnf) | (refine VCall.intro (c _) ?_; conv => whnf) | (refine VCall.intro (cB _) ?_; conv => whnf) | (refine VCall.intro (cG _) ?_; conv => whnf))
      all_goals first | (exact VOut.same rfl) | (exfalso; omega)
  · rw [if_pos b0] at hE
    rw [hE, if_neg b0] at hR
    subst hR
    subst hE
    generalize brE N p = E at *
    refine VC.body Try.func55 rfl Try.ntmps55 Try.call55 (h.grows_refl) rfl ?_; conv => whnf
    repeat' (first | ((first | refine zs1 ?_ | refine zs2 ?_ | refine zs3 ?_ | refine zs4 ?_ | refine zs5 ?_ | refine zs6 [] ?_); conv => whnf) | ((first | apply zi1 | apply zi2 | apply zi3 | apply zi4 | apply zi5) <;> intro _ <;> conv => whnf) | (refine VCall.intro (c _) ?_; conv => whnf))
    all_goals first | (exact VOut.same rfl) | (exfalso; omega)
end Go.Proofs.Ytdlnjnfkbneibaa

open Go.Vm
namespace Go.Vm
theorem flat_del {α : Type} {enc : α → List D} {m : Nat} (hm : ∀ a, (enc a).length = m) (l : List α) (k : Nat) (hk : k < l.length) :
    ((l.flatMap enc).take (0 + k * m) ++ ((l.flatMap enc).drop ((k + 1) * m)).take ((l.length - (k + 1)) * m) ++ (l.flatMap enc).drop (0 + k * m + (l.length - (k + 1)) * m)).take (0 + (l.length - 1) * m) = (l.eraseIdx k).flatMap enc := by
  rw [Nat.zero_add, Nat.zero_add, flat_takeD hm, flat_dropD hm, flat_takeD hm, ← List.flatMap_append]
  have e : l.take k ++ (l.drop (k + 1)).take (l.length - (k + 1)) = l.eraseIdx k := by
    rw [List.take_of_length_le (l := l.drop (k + 1)) (by rw [List.length_drop]; exact Nat.le_refl _), List.eraseIdx_eq_take_drop_succ]
  rw [e]
  have hl : ((l.eraseIdx k).flatMap enc).length = (l.length - 1) * m := by rw [flat_len hm, List.length_eraseIdx_of_lt hk]
  rw [List.take_append_of_le_length (by omega), List.take_of_length_le (by omega)]
end Go.Vm
open Clip (Pn Sg Nt Bd Rt Sp Co Pl NtOk SgOk chk chk_ok bnds bnds_sz bnds_len bnds_sq regS BdSz SpSz)
namespace Go.Proofs.Ytdlnjnfkbneibaa
set_option maxRecDepth 20000
set_option maxHeartbeats 4000000

theorem VOut.setSl {h : Hp} {loc : List Blk} {i : Vm.Id} {b0 : Blk} {l : List D} {rw : Bool} {o e n : Nat} {m : Option Nat} {L : Nat} (hL : Nat.ble loc.length L = true) (hb : h.get i = some b0) : VOut h ⟨outW h.lift i (.flat rw l), loc⟩ (.slice (.out i) o e n m) (.slice i o e n m) (h.set i (.flat rw l)) := by
  have hd : ∀ p ∈ [(i, Blk.flat rw l)], h.get p.1 ≠ none := by
    intro p hp
    simp only [List.mem_cons, List.not_mem_nil, or_false] at hp
    subst hp; simp only; rw [hb]; simp
  have := VOut.upd (loc := loc) (r1 := .slice (.out i) o e n m) (r := .slice i o e n m) [(i, .flat rw l)] [] [] L hL hd (by simp) rfl (by intro k b hk; simp at hk) (fun σ x hx => by
    have hρ : backR h.loc.length [] L i = .out i := by
      cases i with
      | out i => rfl
      | loc k =>
        have hk : k < h.loc.length := (List.getElem?_eq_some_iff.1 (show h.loc[k]? = some b0 from hb)).1
        simp [backR, hk]
    simp only [V.ren, hρ]; exact hx) (outer := outW h.lift i (.flat rw l)) rfl
  have he : (h.sets [(i, Blk.flat rw l)]).pushes [] = h.set i (.flat rw l) := by simp [Hp.sets, Hp.pushes]
  rw [he] at this
  exact this
theorem vc_DelS (l : List Sg) (k c : Nat) (i : Vm.Id) (h : Hp) (hb : h.get i = some (.flat true (l.flatMap encSg))) (hk : k < l.length) (hc : l.length ≤ c) (hl : l.length ≤ 4000000) :
    VC Try.prog 41 [.slice i 0 6 l.length (some c), I k, I ((k : Int) + 1)] h (.slice i 0 6 (l.eraseIdx k).length (some c)) (h.set i (.flat true ((l.eraseIdx k).flatMap encSg))) := by
  rw [List.length_eraseIdx_of_lt hk]
  refine VC.body Try.func41 rfl Try.ntmps41 Try.call41 (h.grows_set _ _) rfl ?_
  conv => whnf
  repeat' (first | ((first | refine zs1 ?_ | refine zs2 ?_ | refine zs3 ?_ | refine zs4 ?_ | refine zs5 ?_); conv => whnf) | ((first | apply zi1 | apply zi2 | apply zi3 | apply zi4 | apply zi5) <;> intro _ <;> conv => whnf))
  · exfalso; omega
  · refine VDraw.go [] (by kernel_rfl) (by kernel_rfl) ?_
    conv => whnf
    repeat' (first | ((first | refine zs1 ?_ | refine zs2 ?_ | refine zs3 ?_ | refine zs4 ?_ | refine zs5 ?_); conv => whnf) | ((first | apply zi1 | apply zi2 | apply zi3 | apply zi4 | apply zi5) <;> intro _ <;> conv => whnf))
    have e1 : ((k : Int) - 0).toNat = k := by omega
    have e2 : ((k : Int) + 1).toNat = k + 1 := by omega
    have e3 : ((l.length : Int) - ((k : Int) + 1)).toNat = l.length - (k + 1) := by omega
    have e4 : k + (l.length - (k + 1)) = l.length - 1 := by omega
    have e5 : 0 + (k + 1) * (5 + 1) = (k + 1) * 6 := by omega
    rw [e1, e2, e3, e5]
    have hfl := flat_len encSg_len l
    refine VMem.appRoom (esz := 6) (off := 0) (off2 := (k + 1) * 6) (len := k) (n := l.length - (k + 1)) (c0 := c) rfl (get_out hb _) (by rw [hfl]; omega) (by rw [hfl]; omega) (by omega) (by omega) ?_
    rw [e4]
    have hR := flat_del encSg_len l k hk
    have hRl : ((l.flatMap encSg).take (0 + k * 6) ++ ((l.flatMap encSg).drop ((k + 1) * 6)).take ((l.length - (k + 1)) * 6) ++ (l.flatMap encSg).drop (0 + k * 6 + (l.length - (k + 1)) * 6)).length = l.length * 6 := by
      simp only [List.length_append, List.length_take, List.length_drop, hfl]; omega
    generalize (l.flatMap encSg).take (0 + k * 6) ++ ((l.flatMap encSg).drop ((k + 1) * 6)).take ((l.length - (k + 1)) * 6) ++ (l.flatMap encSg).drop (0 + k * 6 + (l.length - (k + 1)) * 6) = R at hR hRl ⊢
    conv => whnf
    repeat' (first | ((first | refine zs1 ?_ | refine zs2 ?_ | refine zs3 ?_ | refine zs4 ?_ | refine zs5 ?_); conv => whnf) | ((first | apply zi1 | apply zi2 | apply zi3 | apply zi4 | apply zi5) <;> intro _ <;> conv => whnf))
    have e8 : 0 + ((l.length - 1 : Nat) : Int).toNat * (5 + 1) = 0 + (l.length - 1) * 6 := by omega
    refine VMem.clearTail (esz := 6) rfl (outW_get _ _ _ _) ?_ ?_
    · have e9 : ((l.length : Int) - ((l.length - 1 : Nat) : Int)).toNat = 1 := by omega
      rw [hRl, e8, e9]; omega
    rw [e8, hR]
    conv => whnf
    repeat' (first | ((first | refine zs1 ?_ | refine zs2 ?_ | refine zs3 ?_ | refine zs4 ?_ | refine zs5 ?_); conv => whnf) | ((first | apply zi1 | apply zi2 | apply zi3 | apply zi4 | apply zi5) <;> intro _ <;> conv => whnf))
    refine (show VOut h ⟨outW (outW h.lift i (.flat true R)) i (.flat true ((l.eraseIdx k).flatMap encSg)), []⟩ _ _ _ from ?_)
    rw [outW_same]
    exact VOut.setSl (L := 0) rfl hb
end Go.Proofs.Ytdlnjnfkbneibaa

open Go.Vm
open Clip (Pn Sg Nt Bd Rt Sp Co Pl NtOk SgOk chk chk_ok bnds bnds_sz bnds_len bnds_sq regS BdSz SpSz)
namespace Go.Proofs.Ytdlnjnfkbneibaa
set_option maxRecDepth 20000
set_option maxHeartbeats 4000000

def erN (N : Nt) (k : Nat) : Nt := ⟨N.ps, N.ss.eraseIdx k⟩
theorem erN_ok {N : Nt} (o : NtOk N) (k : Nat) : NtOk (erN N k) := by
  refine ⟨o.n, ?_, o.p, fun s hs => o.s s (List.mem_of_mem_eraseIdx hs)⟩
  have := o.m
  have h2 := List.length_eraseIdx_le N.ss k
  show (N.ss.eraseIdx k).length ≤ 20
  omega
theorem vc_without (N : Nt) (p : Int) (k : Nat) (h : Hp) (o : NtOk N) (hk : k < N.ss.length) : VC Try.prog 95 [.fp (encDk N p), I k] h (.fp (encDk (erN N k) p)) h := by
  have hm := o.m
  have cD := fun (o : Vm.Id → Option Blk) => VC.glSl (P := Try.prog) (f := 41) (i := .loc 0) (rest := [I k, I ((k : Int) + 1)]) (h := ⟨o, [.flat true (N.ss.flatMap encSg)]⟩) (by omega) (by simp [Hp.get]) (fun c hc => vc_DelS N.ss k c (.loc 0) ⟨o, [.flat true (N.ss.flatMap encSg)]⟩ rfl hk hc (by omega))
  refine VC.body Try.func95 rfl Try.ntmps95 Try.call95 (h.grows_refl) rfl ?_; conv => whnf
  repeat' (first | ((first | refine zs1 ?_ | refine zs2 ?_ | refine zs3 ?_ | refine zs4 ?_ | refine zs5 ?_); conv => whnf) | ((first | apply zi1 | apply zi2 | apply zi3 | apply zi4 | apply zi5) <;> intro _ <;> conv => whnf))
  refine VMem.make (⟨0, 0, ⟨0, 0⟩, ⟨0, 0⟩⟩ : Sg) encSg_len rfl rfl rfl rfl rfl rfl (by omega) ?_
  conv => whnf
  repeat' (first | ((first | refine zs1 ?_ | refine zs2 ?_ | refine zs3 ?_ | refine zs4 ?_ | refine zs5 ?_); conv => whnf) | ((first | apply zi1 | apply zi2 | apply zi3 | apply zi4 | apply zi5) <;> intro _ <;> conv => whnf))
  refine VMem.copyFs encSg_len rfl rfl (by simp) rfl rfl ?_
  conv => whnf
  repeat' (first | ((first | refine zs1 ?_ | refine zs2 ?_ | refine zs3 ?_ | refine zs4 ?_ | refine zs5 ?_); conv => whnf) | ((first | apply zi1 | apply zi2 | apply zi3 | apply zi4 | apply zi5) <;> intro _ <;> conv => whnf))
  refine zs6 [(4, 9), (9, 14)] ?_
  conv => whnf
  repeat' (first | ((first | refine zs1 ?_ | refine zs2 ?_ | refine zs3 ?_ | refine zs4 ?_ | refine zs5 ?_); conv => whnf) | ((first | apply zi1 | apply zi2 | apply zi3 | apply zi4 | apply zi5) <;> intro _ <;> conv => whnf))
  refine VCall.intro (cD _) ?_
  conv => whnf
  repeat' (first | ((first | refine zs1 ?_ | refine zs2 ?_ | refine zs3 ?_ | refine zs4 ?_ | refine zs5 ?_); conv => whnf) | ((first | apply zi1 | apply zi2 | apply zi3 | apply zi4 | apply zi5) <;> intro _ <;> conv => whnf))
  rw [show (N.ss.eraseIdx k) = (erN N k).ss from rfl]
  refine VOut.data 2 [(0, (erN N k).ss.flatMap encSg), (1, encDk (erN N k) p)] [] rfl zr (by exact FmAll.nil) zv
def ofS (p : Int) (s : Sg) : Bool := decide (s.f = p ∨ s.t = p)
def looS (N : Nt) (p : Int) : Nat → List Sg → List Int
  | _, [] => []
  | k, s :: r => if (ofS p s && !decide (regS (bnds (erN N k) p) = [])) = true then (k : Int) :: looS N p (k + 1) r else looS N p (k + 1) r
theorem looS_at {N : Nt} {p : Int} {l : List Sg} {k : Nat} {s : Sg} (h : l[k]? = some s) : looS N p k (l.drop k) = if (ofS p s && !decide (regS (bnds (erN N k) p) = [])) = true then (k : Int) :: looS N p (k + 1) (l.drop (k + 1)) else looS N p (k + 1) (l.drop (k + 1)) := by
  obtain ⟨hlt, rfl⟩ := List.getElem?_eq_some_iff.1 h
  rw [List.drop_eq_getElem_cons hlt, looS]
def loE (N : Nt) (p : Int) : Int := if brE N p ≠ 0 then brE N p else if regS (bnds N p) = [] then 0 else 10
def loL (N : Nt) (p : Int) : List Int := if loE N p = 0 then looS N p 0 N.ss else []
theorem loE_ok {N : Nt} {p : Int} : loE N p = 0 ↔ brE N p = 0 ∧ regS (bnds N p) = [] := by
  unfold loE
  split
  · rename_i h; exact ⟨fun e => absurd e h, fun e => absurd e.1 h⟩
  · rename_i h
    split
    · rename_i h2; exact ⟨fun _ => ⟨Classical.not_not.1 h, h2⟩, fun _ => rfl⟩
    · rename_i h2; exact ⟨fun e => by omega, fun e => absurd e.2 h2⟩
theorem vc_Loose (N : Nt) (p : Int) (h : Hp) (hn : N.ps.length ≤ 4000000) (hm : N.ss.length ≤ 4000000) : VC Try.prog 54 [vN N, I p] h (.tuple [ints (loL N p), I (loE N p)]) h := by
  have c := fun h => vc_begun N p h hn hm
  unfold loL
  by_cases h0 : loE N p = 0
  · obtain ⟨b0, hS⟩ := loE_ok.1 h0
    have o := (brE_ok.1 b0).1
    have om := o.m
    have cB := fun h => vc_bounds N p h o
    have cR := fun h => vc_region (bnds N p) h (by have := bnds_len o p; omega) (bnds_sz o p)
    rw [hS] at cR
    rw [b0] at c
    rw [if_pos h0, h0]
    obtain ⟨M, hM⟩ : ∃ M, M = looS N p 0 N.ss := ⟨_, rfl⟩
    rw [← hM]
    have hM : M = [] ++ looS N p 0 (N.ss.drop 0) := hM
    generalize bnds N p = bs at *
    refine VC.body Try.func54 rfl Try.ntmps54 Try.call54 (h.grows_refl) rfl ?_; conv => whnf
    repeat' (first | ((first | refine zs1 ?_ | refine zs2 ?_ | refine zs3 ?_ | refine zs4 ?_ | refine zs5 ?_ | refine zs6 [] ?_); conv => whnf) | ((first | apply zi1 | apply zi2 | apply zi3 | apply zi4 | apply zi5) <;> intro _ <;> conv => whnf) | (refine VCall.intro (c _) ?_; conv => whnf) | (refine VCall.intro (cB _) ?_; conv => whnf) | (refine VCall.intro (cR _) ?_; conv => whnf))
    refine VCode.lp (fun y : Nat × List Int => [(2, .fp (encN N)), (4, .nilslice), (5, I 0), (6, .fp (encDk N p)), (8, .gl (.loc 0) 1 y.2.length), (28, sgs N.ss), (29, I N.ss.length), (30, I y.1)]) (fun y => [.flat true (y.2.flatMap encI)]) (fun y => y.1 ≤ N.ss.length ∧ y.2.length ≤ y.1 ∧ M = y.2 ++ looS N p y.1 (N.ss.drop y.1)) (fun y => N.ss.length - y.1) (0, []) ⟨Nat.zero_le _, Nat.zero_le _, hM⟩ ?_ ?_
    · conv => whnf
      refine Retell.turn ⟨[1], 1, [(0, encN N)], []⟩ (TurnOk.mk' _ _ [(0, encN N)] [] (OutOk.lift _) rfl (by decide) zb zf trivial rfl) zv zm
    · clear hM
      rintro ⟨k, w⟩ ⟨h1, h2, h3⟩
      dsimp only at h1 h2 h3
      conv => whnf
      refine VIte.dec (fun h5 => ?_) (fun h5 => ?_)
      · dsimp only at h5
        have hk : N.ss[k]? = some N.ss[k] := List.getElem?_eq_getElem (by omega)
        rw [looS_at hk] at h3
        generalize N.ss[k] = s at hk h3
        have cO := fun h => vc_of N p s h
        have cW := fun h => vc_without N p k h o (by omega)
        have oe := erN_ok o k
        have cB2 := fun h => vc_bounds (erN N k) p h oe
        have cR2 := fun h => vc_region (bnds (erN N k) p) h (by have := bnds_len oe p; omega) (bnds_sz oe p)
        have eo : decide (s.f = p ∨ s.t = p) = ofS p s := rfl
        rw [eo] at cO
        generalize bnds (erN N k) p = bs2 at *
        generalize regS bs2 = S at *
        cases hof : ofS p s with
        | false =>
          rw [hof] at cO h3
          rw [Bool.false_and, if_neg (by decide)] at h3
          conv => whnf
          repeat' (first | ((first | refine zs1 ?_ | refine zs2 ?_ | refine zs3 ?_ | refine zs4 ?_ | refine zs5 ?_ | refine zs6 [] ?_); conv => whnf) | ((first | apply zi1 | apply zi2 | apply zi3 | apply zi4 | apply zi5) <;> intro _ <;> conv => whnf) | (refine VAny.ix encSg_len k rfl rfl hk ?_; conv => whnf) | (refine VCall.intro (cO _) ?_; conv => whnf))
          refine LEnd.intro (k + 1, w) ⟨by dsimp only; omega, by dsimp only; omega, h3⟩ (by dsimp only; omega) ?_
          conv => whnf
          refine Retell.turn ⟨[0], 2, [], []⟩ (TurnOk.mk' _ _ [] [] (OutOk.lift _) rfl (by decide) zb trivial trivial rfl) zv zm
        | true =>
          rw [hof] at cO h3
          rw [Bool.true_and] at h3
          conv => whnf
          repeat' (first | ((first | refine zs1 ?_ | refine zs2 ?_ | refine zs3 ?_ | refine zs4 ?_ | refine zs5 ?_ | refine zs6 [] ?_); conv => whnf) | ((first | apply zi1 | apply zi2 | apply zi3 | apply zi4 | apply zi5) <;> intro _ <;> conv => whnf) | (refine VAny.ix encSg_len k rfl rfl hk ?_; conv => whnf) | (refine VCall.intro (cO _) ?_; conv => whnf) | (refine VCall.intro (cW _) ?_; conv => whnf) | (refine VCall.intro (cB2 _) ?_; conv => whnf) | (refine VCall.intro (cR2 _) ?_; conv => whnf))
          · rename_i hS
            have hS2 : ¬ S = [] := fun e => by subst e; dsimp only [List.length_nil] at hS; omega
            rw [decide_eq_false hS2, Bool.not_false, if_pos rfl] at h3
            refine VMem.app1 (l := w) (k : Int) encI_len rfl rfl rfl rfl rfl (by omega) ?_
            conv => whnf
            repeat' (first | ((first | refine zs1 ?_ | refine zs2 ?_ | refine zs3 ?_ | refine zs4 ?_ | refine zs5 ?_ | refine zs6 [] ?_); conv => whnf) | ((first | apply zi1 | apply zi2 | apply zi3 | apply zi4 | apply zi5) <;> intro _ <;> conv => whnf))
            refine LEnd.intro (k + 1, w ++ [(k : Int)]) ⟨by dsimp only; omega, by dsimp only; rw [List.length_append]; simp only [List.length_singleton]; omega, by dsimp only; rw [h3, List.append_assoc]; rfl⟩ (by dsimp only; omega) ?_
            conv => whnf
            rw [List.length_append]
            refine Retell.turn ⟨[3], 4, [], []⟩ (TurnOk.mk' _ _ [] [] (OutOk.lift _) rfl (by decide) zb trivial trivial rfl) zv zm
          · rename_i hS
            have hS2 : S = [] := List.length_eq_zero_iff.1 (by omega)
            rw [decide_eq_true hS2, Bool.not_true, if_neg (by decide)] at h3
            refine LEnd.intro (k + 1, w) ⟨by dsimp only; omega, by dsimp only; omega, h3⟩ (by dsimp only; omega) ?_
            conv => whnf
            refine Retell.turn ⟨[0], 2, [], []⟩ (TurnOk.mk' _ _ [] [] (OutOk.lift _) rfl (by decide) zb trivial trivial rfl) zv zm
      · have hk3 : k = N.ss.length := by dsimp only at h5; omega
        subst hk3
        rw [List.drop_length, looS, List.append_nil] at h3
        subst h3
        conv => whnf
        repeat' (first | ((first | refine zs1 ?_ | refine zs2 ?_ | refine zs3 ?_ | refine zs4 ?_ | refine zs5 ?_ | refine zs6 [] ?_); conv => whnf) | ((first | apply zi1 | apply zi2 | apply zi3 | apply zi4 | apply zi5) <;> intro _ <;> conv => whnf))
        refine VOut.data 1 [(0, M.flatMap encI)] [] rfl zf (by exact FmAll.nil) zv
  · rw [if_neg h0]
    by_cases b0 : brE N p = 0
    · have o := (brE_ok.1 b0).1
      have hS : regS (bnds N p) ≠ [] := fun e => h0 (loE_ok.2 ⟨b0, e⟩)
      have e : loE N p = 10 := by unfold loE; rw [if_neg (by omega), if_neg hS]
      have cB := fun h => vc_bounds N p h o
      have cR := fun h => vc_region (bnds N p) h (by have := bnds_len o p; omega) (bnds_sz o p)
      have hl := List.length_pos_iff.2 hS
      rw [b0] at c
      rw [e]
      generalize bnds N p = bs at *
      generalize regS bs = S at *
      refine VC.body Try.func54 rfl Try.ntmps54 Try.call54 (h.grows_refl) rfl ?_; conv => whnf
      repeat' (first | ((first | refine zs1 ?_ | refine zs2 ?_ | refine zs3 ?_ | refine zs4 ?_ | refine zs5 ?_ | refine zs6 [] ?_); conv => whnf) | ((first | apply zi1 | apply zi2 | apply zi3 | apply zi4 | apply zi5) <;> intro _ <;> conv => whnf) | (refine VCall.intro (c _) ?_; conv => whnf) | (refine VCall.intro (cB _) ?_; conv => whnf) | (refine VCall.intro (cR _) ?_; conv => whnf))
      all_goals first | (refine VOut.data 1 [] [] rfl zf (by exact FmAll.nil) zv
                         done) | (exfalso; omega)
    · have e : loE N p = brE N p := by unfold loE; rw [if_pos b0]
      rw [e]
      generalize brE N p = E at *
      refine VC.body Try.func54 rfl Try.ntmps54 Try.call54 (h.grows_refl) rfl ?_; conv => whnf
      repeat' (first | ((first | refine zs1 ?_ | refine zs2 ?_ | refine zs3 ?_ | refine zs4 ?_ | refine zs5 ?_ | refine zs6 [] ?_); conv => whnf) | ((first | apply zi1 | apply zi2 | apply zi3 | apply zi4 | apply zi5) <;> intro _ <;> conv => whnf) | (refine VCall.intro (c _) ?_; conv => whnf))
      all_goals first | (exfalso; omega) | (refine VOut.data 1 [] [] rfl zf (by exact FmAll.nil) zv
                                            done)
end Go.Proofs.Ytdlnjnfkbneibaa

open Go.Vm
open Clip (Pn Sg Nt Bd Rt Sp Co Pl NtOk SgOk chk chk_ok bnds bnds_sz bnds_len bnds_sq regS BdSz SpSz)
namespace Go.Proofs.Ytdlnjnfkbneibaa
set_option maxRecDepth 20000
set_option maxHeartbeats 4000000

theorem drop_eq_dec {α : Type} [DecidableEq α] {a b : List α} {k : Nat} {x y : α} (hx : a[k]? = some x) (hy : b[k]? = some y) : decide (a.drop k = b.drop k) = (decide (x = y) && decide (a.drop (k + 1) = b.drop (k + 1))) := by
  obtain ⟨h1, rfl⟩ := List.getElem?_eq_some_iff.1 hx
  obtain ⟨h2, rfl⟩ := List.getElem?_eq_some_iff.1 hy
  rw [List.drop_eq_getElem_cons h1, List.drop_eq_getElem_cons h2, Bool.eq_iff_iff, Bool.and_eq_true, decide_eq_true_eq, decide_eq_true_eq, decide_eq_true_eq, List.cons.injEq]
theorem ne_I {x y : Int} (h : ¬ x = y) : ¬ x = y := h
theorem eq_I {x y : Int} (h : x = y) : x = y := h
theorem ne_X {α : Type} {x y : α} (h : ¬ x = y) : ¬ x = y := h
theorem eq_X {α : Type} [DecidableEq α] {x y : α} (h : ¬ ¬ x = y) : x = y := Decidable.not_not.1 h
theorem vneqP (x y : Pn) : vaggeq Try.prog .neq 60 (vPn x) (vPn y) = some (B (decide (¬ x = y))) := by
  have := vne60 x.x x.y y.x y.y
  have e : decide (¬ (x.x = y.x ∧ x.y = y.y)) = decide (¬ x = y) := decide_eq_decide.2 (by cases x; cases y; simp)
  rw [e] at this
  exact this
theorem vneqSp (x y : Sp) : vaggeq Try.prog .neq 72 (vSp x) (vSp y) = some (B (decide (¬ x = y))) := by
  obtain ⟨sh, h1, h2⟩ := top72
  unfold vaggeq
  rw [h1]
  dsimp only
  rw [h2]
  rw [decide_not]
theorem top85 : eqTop Try.prog 85 = some (Sh.cons 0 1 false Sh.int (Sh.cons 1 1 false Sh.int (Sh.cons 2 2 true (Sh.cons 0 1 false Sh.int (Sh.cons 1 1 false Sh.int Sh.nil)) (Sh.cons 4 2 true (Sh.cons 0 1 false Sh.int (Sh.cons 1 1 false Sh.int Sh.nil)) Sh.nil)))) := by kernel_rfl
theorem vneqSg (x y : Sg) : vaggeq Try.prog .neq 85 (vSg x) (vSg y) = some (B (decide (¬ x = y))) := by
  have : (!((x.f == y.f) && ((x.t == y.t) && (((x.r.x == y.r.x) && ((x.r.y == y.r.y) && true)) && (((x.l.x == y.l.x) && ((x.l.y == y.l.y) && true)) && true))))) = decide (¬ x = y) := by
    obtain ⟨f, t, ⟨a, b⟩, ⟨c, d⟩⟩ := x; obtain ⟨f', t', ⟨a', b'⟩, ⟨c', d'⟩⟩ := y
    rw [Bool.eq_iff_iff, decide_eq_true_eq]; simp [-not_and, and_assoc]; omega
  rw [← this]
  unfold vaggeq
  rw [top85]
  rfl
theorem vc_equalI (a b : List Int) (h : Hp) (ha : a.length ≤ 4000000) (hb : b.length ≤ 4000000) : VC Try.prog 17 [ints a, ints b] h (B (decide (a = b))) h := by
  obtain ⟨E, hE⟩ : ∃ E, E = decide (a = b) := ⟨_, rfl⟩
  rw [← hE]
  refine VC.body Try.func17 rfl Try.ntmps17 Try.call17 (h.grows_refl) rfl ?_; conv => whnf
  refine VCode.lp (fun k : Nat => [(0, ints a), (1, ints b), (4, B false), (7, I a.length), (8, I k)]) (fun _ => []) (fun k => k ≤ a.length ∧ k ≤ b.length ∧ E = decide (a.drop k = b.drop k)) (fun k => a.length - k) 0 ⟨Nat.zero_le _, Nat.zero_le _, hE⟩ ?_ ?_
  · conv => whnf
    refine Retell.turn ⟨[], 0, [], []⟩ (TurnOk.mk' _ _ [] [] (OutOk.lift _) rfl (by decide) zb trivial trivial rfl) zv zm
  · rintro k ⟨h1, h2, h3⟩
    conv => whnf
    refine VIte.dec (fun h4 => ?_) (fun h4 => ?_)
    · have hx : a[k]? = some a[k] := List.getElem?_eq_getElem (by omega)
      rcases Nat.eq_or_lt_of_le h2 with h5 | h5
      · have hF : E = false := by
          rw [h3, decide_eq_false_iff_not]
          intro hh
          have := congrArg List.length hh
          simp at this; omega
        rw [hF]
        conv => whnf
        repeat' (first | ((first | refine zs1 ?_ | refine zs2 ?_ | refine zs3 ?_ | refine zs4 ?_ | refine zs5 ?_ | refine zs6 [] ?_); conv => whnf) | ((first | apply zi1 | apply zi2 | apply zi3 | apply zi4 | apply zi5) <;> intro _ <;> conv => whnf))
        · exact VOut.same rfl
        all_goals omega
      · have hy : b[k]? = some b[k] := List.getElem?_eq_getElem h5
        rw [drop_eq_dec hx hy] at h3
        generalize a[k] = x at hx h3
        generalize b[k] = y at hy h3
        conv => whnf
        repeat' (first | ((first | refine zs1 ?_ | refine zs2 ?_ | refine zs3 ?_ | refine zs4 ?_ | refine zs5 ?_ | refine zs6 [] ?_); conv => whnf) | ((first | apply zi1 | apply zi2 | apply zi3 | apply zi4 | apply zi5) <;> intro _ <;> conv => whnf) | (refine VAny.ix encI_len k rfl rfl hx ?_; conv => whnf) | (refine VAny.ix encI_len k rfl rfl hy ?_; conv => whnf))
        all_goals (try omega)
        all_goals first
          | (rw [decide_eq_false (ne_I (by first | assumption | omega)), Bool.false_and] at h3; rw [h3]; exact VOut.same rfl)
          | (rw [decide_eq_true (eq_I (by first | assumption | omega)), Bool.true_and] at h3
             refine LEnd.intro (k + 1) ⟨by omega, by omega, h3⟩ (by omega) ?_
             conv => whnf
             refine Retell.turn ⟨[], 0, [], []⟩ (TurnOk.mk' _ _ [] [] (OutOk.lift _) rfl (by decide) zb trivial trivial rfl) zv zm)
    · have hk : k = a.length := by omega
      rw [h3, hk, List.drop_length]
      conv => whnf
      repeat' (first | ((first | refine zs1 ?_ | refine zs2 ?_ | refine zs3 ?_ | refine zs4 ?_ | refine zs5 ?_ | refine zs6 [] ?_); conv => whnf) | ((first | apply zi1 | apply zi2 | apply zi3 | apply zi4 | apply zi5) <;> intro _ <;> conv => whnf))
      refine VOut.same ?_
      have : ((a.length : Int) == b.length) = decide ([] = b.drop a.length) := by
        rw [Bool.eq_iff_iff, decide_eq_true_eq, beq_iff_eq]
        constructor
        · intro hh; rw [List.drop_of_length_le (by omega)]
        · intro hh
          have := congrArg List.length hh
          simp at this; omega
      simp only [V.ren, this]
theorem vc_equalSp (a b : List Sp) (h : Hp) (ha : a.length ≤ 4000000) (hb : b.length ≤ 4000000) : VC Try.prog 46 [sps a, sps b] h (B (decide (a = b))) h := by
  obtain ⟨E, hE⟩ : ∃ E, E = decide (a = b) := ⟨_, rfl⟩
  rw [← hE]
  refine VC.body Try.func46 rfl Try.ntmps46 Try.call46 (h.grows_refl) rfl ?_; conv => whnf
  refine VCode.lp (fun k : Nat => [(0, sps a), (1, sps b), (4, B false), (7, I a.length), (8, I k)]) (fun _ => []) (fun k => k ≤ a.length ∧ k ≤ b.length ∧ E = decide (a.drop k = b.drop k)) (fun k => a.length - k) 0 ⟨Nat.zero_le _, Nat.zero_le _, hE⟩ ?_ ?_
  · conv => whnf
    refine Retell.turn ⟨[], 0, [], []⟩ (TurnOk.mk' _ _ [] [] (OutOk.lift _) rfl (by decide) zb trivial trivial rfl) zv zm
  · rintro k ⟨h1, h2, h3⟩
    conv => whnf
    refine VIte.dec (fun h4 => ?_) (fun h4 => ?_)
    · have hx : a[k]? = some a[k] := List.getElem?_eq_getElem (by omega)
      rcases Nat.eq_or_lt_of_le h2 with h5 | h5
      · have hF : E = false := by
          rw [h3, decide_eq_false_iff_not]
          intro hh
          have := congrArg List.length hh
          simp at this; omega
        rw [hF]
        conv => whnf
        repeat' (first | ((first | refine zs1 ?_ | refine zs2 ?_ | refine zs3 ?_ | refine zs4 ?_ | refine zs5 ?_ | refine zs6 [] ?_); conv => whnf) | ((first | apply zi1 | apply zi2 | apply zi3 | apply zi4 | apply zi5) <;> intro _ <;> conv => whnf))
        · exact VOut.same rfl
        all_goals omega
      · have hy : b[k]? = some b[k] := List.getElem?_eq_getElem h5
        rw [drop_eq_dec hx hy] at h3
        generalize a[k] = x at hx h3
        generalize b[k] = y at hy h3
        conv => whnf
        repeat' (first | ((first | refine zs1 ?_ | refine zs2 ?_ | refine zs3 ?_ | refine zs4 ?_ | refine zs5 ?_ | refine zs6 [] ?_); conv => whnf) | ((first | apply zi1 | apply zi2 | apply zi3 | apply zi4 | apply zi5) <;> intro _ <;> conv => whnf) | (refine VAny.ix encSp_len k rfl rfl hx ?_; conv => whnf) | (refine VAny.ix encSp_len k rfl rfl hy ?_; conv => whnf) | (refine VAgg.intro (vneqSp _ _) ?_; conv => whnf))
        all_goals (try omega)
        all_goals first
          | (rw [decide_eq_false (ne_X (by first | assumption | omega)), Bool.false_and] at h3; rw [h3]; exact VOut.same rfl)
          | (rw [decide_eq_true (eq_X (by first | assumption | omega)), Bool.true_and] at h3
             refine LEnd.intro (k + 1) ⟨by omega, by omega, h3⟩ (by omega) ?_
             conv => whnf
             refine Retell.turn ⟨[], 0, [], []⟩ (TurnOk.mk' _ _ [] [] (OutOk.lift _) rfl (by decide) zb trivial trivial rfl) zv zm)
    · have hk : k = a.length := by omega
      rw [h3, hk, List.drop_length]
      conv => whnf
      repeat' (first | ((first | refine zs1 ?_ | refine zs2 ?_ | refine zs3 ?_ | refine zs4 ?_ | refine zs5 ?_ | refine zs6 [] ?_); conv => whnf) | ((first | apply zi1 | apply zi2 | apply zi3 | apply zi4 | apply zi5) <;> intro _ <;> conv => whnf))
      refine VOut.same ?_
      have : ((a.length : Int) == b.length) = decide ([] = b.drop a.length) := by
        rw [Bool.eq_iff_iff, decide_eq_true_eq, beq_iff_eq]
        constructor
        · intro hh; rw [List.drop_of_length_le (by omega)]
        · intro hh
          have := congrArg List.length hh
          simp at this; omega
      simp only [V.ren, this]
theorem vc_equalP (a b : List Pn) (h : Hp) (ha : a.length ≤ 4000000) (hb : b.length ≤ 4000000) : VC Try.prog 77 [pns a, pns b] h (B (decide (a = b))) h := by
  obtain ⟨E, hE⟩ : ∃ E, E = decide (a = b) := ⟨_, rfl⟩
  rw [← hE]
  refine VC.body Try.func77 rfl Try.ntmps77 Try.call77 (h.grows_refl) rfl ?_; conv => whnf
  refine VCode.lp (fun k : Nat => [(0, pns a), (1, pns b), (4, B false), (7, I a.length), (8, I k)]) (fun _ => []) (fun k => k ≤ a.length ∧ k ≤ b.length ∧ E = decide (a.drop k = b.drop k)) (fun k => a.length - k) 0 ⟨Nat.zero_le _, Nat.zero_le _, hE⟩ ?_ ?_
  · conv => whnf
    refine Retell.turn ⟨[], 0, [], []⟩ (TurnOk.mk' _ _ [] [] (OutOk.lift _) rfl (by decide) zb trivial trivial rfl) zv zm
  · rintro k ⟨h1, h2, h3⟩
    conv => whnf
    refine VIte.dec (fun h4 => ?_) (fun h4 => ?_)
    · have hx : a[k]? = some a[k] := List.getElem?_eq_getElem (by omega)
      rcases Nat.eq_or_lt_of_le h2 with h5 | h5
      · have hF : E = false := by
          rw [h3, decide_eq_false_iff_not]
          intro hh
          have := congrArg List.length hh
          simp at this; omega
        rw [hF]
        conv => whnf
        repeat' (first | ((first | refine zs1 ?_ | refine zs2 ?_ | refine zs3 ?_ | refine zs4 ?_ | refine zs5 ?_ | refine zs6 [] ?_); conv => whnf) | ((first | apply zi1 | apply zi2 | apply zi3 | apply zi4 | apply zi5) <;> intro _ <;> conv => whnf))
        · exact VOut.same rfl
        all_goals omega
      · have hy : b[k]? = some b[k] := List.getElem?_eq_getElem h5
        rw [drop_eq_dec hx hy] at h3
        generalize a[k] = x at hx h3
        generalize b[k] = y at hy h3
        conv => whnf
        repeat' (first | ((first | refine zs1 ?_ | refine zs2 ?_ | refine zs3 ?_ | refine zs4 ?_ | refine zs5 ?_ | refine zs6 [] ?_); conv => whnf) | ((first | apply zi1 | apply zi2 | apply zi3 | apply zi4 | apply zi5) <;> intro _ <;> conv => whnf) | (refine VAny.ix encPn_len k rfl rfl hx ?_; conv => whnf) | (refine VAny.ix encPn_len k rfl rfl hy ?_; conv => whnf) | (refine VAgg.intro (vneqP _ _) ?_; conv => whnf))
        all_goals (try omega)
        all_goals first
          | (rw [decide_eq_false (ne_X (by first | assumption | omega)), Bool.false_and] at h3; rw [h3]; exact VOut.same rfl)
          | (rw [decide_eq_true (eq_X (by first | assumption | omega)), Bool.true_and] at h3
             refine LEnd.intro (k + 1) ⟨by omega, by omega, h3⟩ (by omega) ?_
             conv => whnf
             refine Retell.turn ⟨[], 0, [], []⟩ (TurnOk.mk' _ _ [] [] (OutOk.lift _) rfl (by decide) zb trivial trivial rfl) zv zm)
    · have hk : k = a.length := by omega
      rw [h3, hk, List.drop_length]
      conv => whnf
      repeat' (first | ((first | refine zs1 ?_ | refine zs2 ?_ | refine zs3 ?_ | refine zs4 ?_ | refine zs5 ?_ | refine zs6 [] ?_); conv => whnf) | ((first | apply zi1 | apply zi2 | apply zi3 | apply zi4 | apply zi5) <;> intro _ <;> conv => whnf))
      refine VOut.same ?_
      have : ((a.length : Int) == b.length) = decide ([] = b.drop a.length) := by
        rw [Bool.eq_iff_iff, decide_eq_true_eq, beq_iff_eq]
        constructor
        · intro hh; rw [List.drop_of_length_le (by omega)]
        · intro hh
          have := congrArg List.length hh
          simp at this; omega
      simp only [V.ren, this]
theorem vc_equalSg (a b : List Sg) (h : Hp) (ha : a.length ≤ 4000000) (hb : b.length ≤ 4000000) : VC Try.prog 78 [sgs a, sgs b] h (B (decide (a = b))) h := by
  obtain ⟨E, hE⟩ : ∃ E, E = decide (a = b) := ⟨_, rfl⟩
  rw [← hE]
  refine VC.body Try.func78 rfl Try.ntmps78 Try.call78 (h.grows_refl) rfl ?_; conv => whnf
  refine VCode.lp (fun k : Nat => [(0, sgs a), (1, sgs b), (4, B false), (7, I a.length), (8, I k)]) (fun _ => []) (fun k => k ≤ a.length ∧ k ≤ b.length ∧ E = decide (a.drop k = b.drop k)) (fun k => a.length - k) 0 ⟨Nat.zero_le _, Nat.zero_le _, hE⟩ ?_ ?_
  · conv => whnf
    refine Retell.turn ⟨[], 0, [], []⟩ (TurnOk.mk' _ _ [] [] (OutOk.lift _) rfl (by decide) zb trivial trivial rfl) zv zm
  · rintro k ⟨h1, h2, h3⟩
    conv => whnf
    refine VIte.dec (fun h4 => ?_) (fun h4 => ?_)
    · have hx : a[k]? = some a[k] := List.getElem?_eq_getElem (by omega)
      rcases Nat.eq_or_lt_of_le h2 with h5 | h5
      · have hF : E = false := by
          rw [h3, decide_eq_false_iff_not]
          intro hh
          have := congrArg List.length hh
          simp at this; omega
        rw [hF]
        conv => whnf
        repeat' (first | ((first | refine zs1 ?_ | refine zs2 ?_ | refine zs3 ?_ | refine zs4 ?_ | refine zs5 ?_ | refine zs6 [] ?_); conv => whnf) | ((first | apply zi1 | apply zi2 | apply zi3 | apply zi4 | apply zi5) <;> intro _ <;> conv => whnf))
        · exact VOut.same rfl
        all_goals omega
      · have hy : b[k]? = some b[k] := List.getElem?_eq_getElem h5
        rw [drop_eq_dec hx hy] at h3
        generalize a[k] = x at hx h3
        generalize b[k] = y at hy h3
        conv => whnf
        repeat' (first | ((first | refine zs1 ?_ | refine zs2 ?_ | refine zs3 ?_ | refine zs4 ?_ | refine zs5 ?_ | refine zs6 [] ?_); conv => whnf) | ((first | apply zi1 | apply zi2 | apply zi3 | apply zi4 | apply zi5) <;> intro _ <;> conv => whnf) | (refine VAny.ix encSg_len k rfl rfl hx ?_; conv => whnf) | (refine VAny.ix encSg_len k rfl rfl hy ?_; conv => whnf) | (refine VAgg.intro (vneqSg _ _) ?_; conv => whnf))
        all_goals (try omega)
        all_goals first
          | (rw [decide_eq_false (ne_X (by first | assumption | omega)), Bool.false_and] at h3; rw [h3]; exact VOut.same rfl)
          | (rw [decide_eq_true (eq_X (by first | assumption | omega)), Bool.true_and] at h3
             refine LEnd.intro (k + 1) ⟨by omega, by omega, h3⟩ (by omega) ?_
             conv => whnf
             refine Retell.turn ⟨[], 0, [], []⟩ (TurnOk.mk' _ _ [] [] (OutOk.lift _) rfl (by decide) zb trivial trivial rfl) zv zm)
    · have hk : k = a.length := by omega
      rw [h3, hk, List.drop_length]
      conv => whnf
      repeat' (first | ((first | refine zs1 ?_ | refine zs2 ?_ | refine zs3 ?_ | refine zs4 ?_ | refine zs5 ?_ | refine zs6 [] ?_); conv => whnf) | ((first | apply zi1 | apply zi2 | apply zi3 | apply zi4 | apply zi5) <;> intro _ <;> conv => whnf))
      refine VOut.same ?_
      have : ((a.length : Int) == b.length) = decide ([] = b.drop a.length) := by
        rw [Bool.eq_iff_iff, decide_eq_true_eq, beq_iff_eq]
        constructor
        · intro hh; rw [List.drop_of_length_le (by omega)]
        · intro hh
          have := congrArg List.length hh
          simp at this; omega
      simp only [V.ren, this]
theorem vc_cloneP (l : List Pn) (h : Hp) (hl : l.length ≤ 4000000) : VC Try.prog 56 [pns l] h (pns l) h := by
  refine VC.body Try.func56 rfl Try.ntmps56 Try.call56 (h.grows_refl) rfl ?_; conv => whnf
  repeat (first | ((first | refine zs1 ?_ | refine zs2 ?_ | refine zs3 ?_ | refine zs4 ?_ | refine zs5 ?_ | refine zs6 [] ?_); conv => whnf))
  refine VMem.appNil encPn_len rfl rfl rfl (by omega) ?_
  conv => whnf
  repeat (first | ((first | refine zs1 ?_ | refine zs2 ?_ | refine zs3 ?_ | refine zs4 ?_ | refine zs5 ?_ | refine zs6 [] ?_); conv => whnf))
  refine VOut.data 1 [(0, l.flatMap encPn)] [] rfl (FzAll.flat rfl FzAll.nil) trivial (VTo.fsGl rfl (flat_len encPn_len _))
theorem vc_cloneSg (l : List Sg) (h : Hp) (hl : l.length ≤ 4000000) : VC Try.prog 57 [sgs l] h (sgs l) h := by
  refine VC.body Try.func57 rfl Try.ntmps57 Try.call57 (h.grows_refl) rfl ?_; conv => whnf
  repeat (first | ((first | refine zs1 ?_ | refine zs2 ?_ | refine zs3 ?_ | refine zs4 ?_ | refine zs5 ?_ | refine zs6 [] ?_); conv => whnf))
  refine VMem.appNil encSg_len rfl rfl rfl (by omega) ?_
  conv => whnf
  repeat (first | ((first | refine zs1 ?_ | refine zs2 ?_ | refine zs3 ?_ | refine zs4 ?_ | refine zs5 ?_ | refine zs6 [] ?_); conv => whnf))
  refine VOut.data 1 [(0, l.flatMap encSg)] [] rfl (FzAll.flat rfl FzAll.nil) trivial (VTo.fsGl rfl (flat_len encSg_len _))
theorem vc_CloneNet (N : Nt) (h : Hp) (hn : N.ps.length ≤ 4000000) (hm : N.ss.length ≤ 4000000) : VC Try.prog 11 [vN N] h (vN N) h := by
  refine VC.body Try.func11 rfl Try.ntmps11 Try.call11 (h.grows_refl) rfl ?_; conv => whnf
  repeat' (first | ((first | refine zs1 ?_ | refine zs2 ?_ | refine zs3 ?_ | refine zs4 ?_ | refine zs5 ?_ | refine zs6 [(2, 4)] ?_); conv => whnf) | ((first | apply zi1 | apply zi2 | apply zi3 | apply zi4 | apply zi5) <;> intro _ <;> conv => whnf) | (refine VCall.intro (vc_cloneP N.ps _ hn) ?_; conv => whnf) | (refine VCall.intro (vc_cloneSg N.ss _ hm) ?_; conv => whnf))
  exact VOut.same rfl
theorem vc_equal (a b : Nt) (h : Hp) (h1 : a.ps.length ≤ 4000000) (h2 : a.ss.length ≤ 4000000) (h3 : b.ps.length ≤ 4000000) (h4 : b.ss.length ≤ 4000000) : VC Try.prog 24 [vN a, vN b] h (B (decide (a.ps = b.ps) && decide (a.ss = b.ss))) h := by
  have c1 := fun h => vc_equalP a.ps b.ps h h1 h3
  have c2 := fun h => vc_equalSg a.ss b.ss h h2 h4
  generalize decide (a.ps = b.ps) = x at *
  generalize decide (a.ss = b.ss) = y at *
  cases x <;> cases y <;> (
    refine VC.body Try.func24 rfl Try.ntmps24 Try.call24 (h.grows_refl) rfl ?_; conv => whnf
    repeat' (first | ((first | refine zs1 ?_ | refine zs2 ?_ | refine zs3 ?_ | refine zs4 ?_ | refine zs5 ?_ | refine zs6 [] ?_); conv => whnf) | ((first | apply zi1 | apply zi2 | apply zi3 | apply zi4 | apply zi5) <;> intro _ <;> conv => whnf) | (refine VCall.intro (c1 _) ?_; conv => whnf) | (refine VCall.intro (c2 _) ?_; conv => whnf))
    exact VOut.same rfl)
end Go.Proofs.Ytdlnjnfkbneibaa

open Go.Vm
open Clip (Pn Sg Nt Bd Rt Sp Co Pl NtOk SgOk chk chk_ok bnds bnds_sz bnds_len bnds_sq regS BdSz SpSz)
namespace Go.Proofs.Ytdlnjnfkbneibaa
set_option maxRecDepth 20000
set_option maxHeartbeats 4000000

theorem vc_Net (N : Nt) (h : Hp) (hn : N.ps.length ≤ 4000000) (hm : N.ss.length ≤ 4000000) : VC Try.prog 12 [vN N] h (vN N) h := by
  refine VC.body Try.func12 rfl Try.ntmps12 Try.call12 (h.grows_refl) rfl ?_; conv => whnf
  repeat' (first | ((first | refine zs1 ?_ | refine zs2 ?_ | refine zs3 ?_ | refine zs4 ?_ | refine zs5 ?_ | refine zs6 [] ?_); conv => whnf) | ((first | apply zi1 | apply zi2 | apply zi3 | apply zi4 | apply zi5) <;> intro _ <;> conv => whnf) | (refine VCall.intro (vc_cloneP N.ps _ hn) ?_; conv => whnf))
  refine VCode.lp (fun x : Nat × List Sg => [(2, .ptr (.loc 0) 0), (3, .ptr (.loc 1) 0), (11, sgs N.ss), (12, I N.ss.length), (13, I x.1)])
    (fun x => [.flat true [.nilslice, .nilslice], .cells true [pns N.ps, .gl (.loc 2) 6 x.2.length], .flat true (x.2.flatMap encSg)]) (fun x => x.1 ≤ N.ss.length ∧ x.2 = N.ss.take x.1) (fun x => N.ss.length - x.1) (0, []) ⟨Nat.zero_le _, rfl⟩ ?_ ?_
  · conv => whnf
    refine Retell.turn ⟨[1,2,3], 3, [], []⟩ (TurnOk.mk' _ _ [] [] (OutOk.lift _) rfl (by decide) zb trivial trivial rfl) zv zm
  · rintro ⟨k, w⟩ ⟨hk, hw⟩
    dsimp only at hk hw
    have hwl : w.length ≤ N.ss.length := by rw [hw, List.length_take]; omega
    conv => whnf
    refine VIte.dec (fun h3 => ?_) (fun h3 => ?_)
    · have hp : N.ss[k]? = some N.ss[k] := List.getElem?_eq_getElem (by omega)
      have hts : N.ss.take (k + 1) = w ++ [N.ss[k]] := by rw [List.take_add_one, hp, hw]; rfl
      generalize N.ss[k] = p at hp hts
      conv => whnf
      repeat' (first | ((first | refine zs1 ?_ | refine zs2 ?_ | refine zs3 ?_ | refine zs4 ?_ | refine zs5 ?_ | refine zs6 [] ?_); conv => whnf) | ((first | apply zi1 | apply zi2 | apply zi3 | apply zi4 | apply zi5) <;> intro _ <;> conv => whnf) | (refine VAny.ix encSg_len k rfl rfl hp ?_; conv => whnf))
      refine VMem.app1 (l := w) p encSg_len rfl rfl rfl rfl rfl (by omega) ?_
      conv => whnf
      repeat (first | ((first | refine zs1 ?_ | refine zs2 ?_ | refine zs3 ?_ | refine zs4 ?_ | refine zs5 ?_ | refine zs6 [] ?_); conv => whnf))
      refine LEnd.intro (k + 1, w ++ [p]) ⟨by dsimp only; omega, hts.symm⟩ (by dsimp only; omega) ?_
      conv => whnf
      rw [List.length_append]
      refine Retell.turn ⟨[0,1,5], 6, [], []⟩ (TurnOk.mk' _ _ [] [] (OutOk.lift _) rfl (by decide) zb trivial trivial rfl) zv zm
    · have hk2 : k = N.ss.length := by dsimp only at h3; omega
      subst hk2
      rw [List.take_of_length_le (Nat.le_refl _)] at hw
      subst hw
      conv => whnf
      repeat (first | ((first | refine zs1 ?_ | refine zs2 ?_ | refine zs3 ?_ | refine zs4 ?_ | refine zs5 ?_ | refine zs6 [] ?_); conv => whnf))
      refine VOut.data 3 [(2, N.ss.flatMap encSg)] [] rfl zf (by exact FmAll.nil) zv
theorem vc_point (x y : Int) (h : Hp) : VC Try.prog 35 [I x, I y] h (vPn ⟨x, y⟩) h := by
  refine VC.body Try.func35 rfl Try.ntmps35 Try.call35 (h.grows_refl) rfl ?_; conv => whnf
  repeat' (first | ((first | refine zs1 ?_ | refine zs2 ?_ | refine zs3 ?_ | refine zs4 ?_ | refine zs5 ?_ | refine zs6 [] ?_); conv => whnf) | ((first | apply zi1 | apply zi2 | apply zi3 | apply zi4 | apply zi5) <;> intro _ <;> conv => whnf))
  exact VOut.same rfl
theorem vc_Seen (f t a b c d : Int) (h : Hp) : VC Try.prog 94 [I f, I t, I a, I b, I c, I d] h (vSg ⟨f, t, ⟨a, b⟩, ⟨c, d⟩⟩) h := by
  have c1 := fun h => vc_point a b h
  have c2 := fun h => vc_point c d h
  refine VC.body Try.func94 rfl Try.ntmps94 Try.call94 (h.grows_refl) rfl ?_; conv => whnf
  repeat' (first | ((first | refine zs1 ?_ | refine zs2 ?_ | refine zs3 ?_ | refine zs4 ?_ | refine zs5 ?_ | refine zs6 [] ?_); conv => whnf) | ((first | apply zi1 | apply zi2 | apply zi3 | apply zi4 | apply zi5) <;> intro _ <;> conv => whnf) | (refine VCall.intro (c1 _) ?_; conv => whnf) | (refine VCall.intro (c2 _) ?_; conv => whnf))
  exact VOut.same rfl
def threeP : List Pn := [⟨0, 0⟩, ⟨100, 0⟩, ⟨60, 60⟩]
def threeS : List Sg := [⟨0, 2, ⟨2, 1⟩, ⟨1, 2⟩⟩, ⟨1, 2, ⟨-1, 2⟩, ⟨-2, 1⟩⟩]
def threeN : Nt := ⟨threeP, threeS⟩
def fourP : List Pn := threeP ++ [⟨60, 0⟩]
def fourS2 : List Sg := [⟨0, 2, ⟨2, 1⟩, ⟨1, 2⟩⟩, ⟨1, 2, ⟨1, 0⟩, ⟨1, 1⟩⟩]
def fourS : List Sg := fourS2 ++ [⟨3, 2, ⟨1, 10⟩, ⟨-1, 10⟩⟩]
def fourN : Nt := ⟨fourP, fourS⟩
theorem VOut.ownN {h : Hp} {loc : List Blk} {n m : Nat} {ds es : List D} (j k L : Nat) (hL : Nat.ble loc.length L = true) (hjk : j < k) (hj : loc[j]? = some (.flat true ds)) (hk : loc[k]? = some (.flat true es)) : VOut h ⟨h.lift, loc⟩ (.agg [.gl (.loc j) 2 n, .gl (.loc k) 6 m]) (.agg [.gl (.loc h.loc.length) 2 n, .gl (.loc (h.loc.length + 1)) 6 m]) (h.pushes [.flat true ds, .flat true es]) := by
  refine VOut.upd [] [.flat true ds, .flat true es] [j, k] L hL (by intro p hp; cases hp) (by simp; omega) rfl ?_ ?_ rfl
  · intro i b hi
    cases i with
    | zero => rw [List.getElem?_cons_zero, Option.some.injEq] at hi; subst hi; exact ⟨j, rfl, hj⟩
    | succ i =>
      cases i with
      | zero => rw [List.getElem?_cons_succ, List.getElem?_cons_zero, Option.some.injEq] at hi; subst hi; exact ⟨k, rfl, hk⟩
      | succ i => simp at hi
  · intro σ x hx
    have : (V.agg [.gl (.loc h.loc.length) 2 n, .gl (.loc (h.loc.length + 1)) 6 m]).ren (backR h.loc.length [j, k] L) = .agg [.gl (.loc j) 2 n, .gl (.loc k) 6 m] := by simp [V.ren, V.rens, backR]
    rw [this]; exact hx
theorem vc_Three (h : Hp) : VC Try.prog 51 [] h (vN threeN) h := by
  have p1 := fun h => vc_point 0 0 h
  have p2 := fun h => vc_point 100 0 h
  have p3 := fun h => vc_point 60 60 h
  have s1 := fun h => vc_Seen 0 2 2 1 1 2 h
  have s2 := fun h => vc_Seen 1 2 (-1) 2 (-2) 1 h
  refine VC.body Try.func51 rfl Try.ntmps51 Try.call51 (h.grows_refl) rfl ?_; conv => whnf
  repeat' (first | ((first | refine zs1 ?_ | refine zs2 ?_ | refine zs3 ?_ | refine zs4 ?_ | refine zs5 ?_ | refine zs6 [] ?_); conv => whnf) | ((first | apply zi1 | apply zi2 | apply zi3 | apply zi4 | apply zi5) <;> intro _ <;> conv => whnf) | (refine VCall.intro (p1 _) ?_; conv => whnf) | (refine VCall.intro (p2 _) ?_; conv => whnf) | (refine VCall.intro (p3 _) ?_; conv => whnf) | (refine VCall.intro (s1 _) ?_; conv => whnf) | (refine VCall.intro (s2 _) ?_; conv => whnf))
  refine VOut.data 3 [(1, threeP.flatMap encPn), (2, threeS.flatMap encSg)] [] rfl zf (by exact FmAll.nil) zv
theorem vc_ThreeO (h : Hp) : VC Try.prog 51 [] h (.agg [.gl (.loc h.loc.length) 2 3, .gl (.loc (h.loc.length + 1)) 6 2]) (h.pushes [.flat true (threeP.flatMap encPn), .flat true (threeS.flatMap encSg)]) := by
  have p1 := fun h => vc_point 0 0 h
  have p2 := fun h => vc_point 100 0 h
  have p3 := fun h => vc_point 60 60 h
  have s1 := fun h => vc_Seen 0 2 2 1 1 2 h
  have s2 := fun h => vc_Seen 1 2 (-1) 2 (-2) 1 h
  refine VC.body Try.func51 rfl Try.ntmps51 Try.call51 (Hp.grows_sets (h := h) (upd := []) (by intro p hp; cases hp)) rfl ?_; conv => whnf
  repeat' (first | ((first | refine zs1 ?_ | refine zs2 ?_ | refine zs3 ?_ | refine zs4 ?_ | refine zs5 ?_ | refine zs6 [] ?_); conv => whnf) | ((first | apply zi1 | apply zi2 | apply zi3 | apply zi4 | apply zi5) <;> intro _ <;> conv => whnf) | (refine VCall.intro (p1 _) ?_; conv => whnf) | (refine VCall.intro (p2 _) ?_; conv => whnf) | (refine VCall.intro (p3 _) ?_; conv => whnf) | (refine VCall.intro (s1 _) ?_; conv => whnf) | (refine VCall.intro (s2 _) ?_; conv => whnf))
  exact VOut.ownN 1 2 3 rfl (by decide) rfl rfl
theorem vc_Four (h : Hp) : VC Try.prog 53 [] h (vN fourN) h := by
  have p1 := fun h => vc_point 60 0 h
  have s1 := fun h => vc_Seen 1 2 1 0 1 1 h
  have s2 := fun h => vc_Seen 3 2 1 10 (-1) 10 h
  refine VC.body Try.func53 rfl Try.ntmps53 Try.call53 (h.grows_refl) rfl ?_; conv => whnf
  repeat' (first | ((first | refine zs1 ?_ | refine zs2 ?_ | refine zs3 ?_ | refine zs4 ?_ | refine zs5 ?_); conv => whnf) | ((first | apply zi1 | apply zi2 | apply zi3 | apply zi4 | apply zi5) <;> intro _ <;> conv => whnf) | (refine VCall.intro (vc_ThreeO _) ?_; conv => whnf))
  refine zs6 [(1, 2)] ?_
  conv => whnf
  repeat' (first | ((first | refine zs1 ?_ | refine zs2 ?_ | refine zs3 ?_ | refine zs4 ?_ | refine zs5 ?_); conv => whnf) | ((first | apply zi1 | apply zi2 | apply zi3 | apply zi4 | apply zi5) <;> intro _ <;> conv => whnf) | (refine VCall.intro (s1 _) ?_; conv => whnf))
  refine zs6 [(1, 2), (2, 6), (4, 6), (6, 7)] ?_
  conv => whnf
  repeat' (first | ((first | refine zs1 ?_ | refine zs2 ?_ | refine zs3 ?_ | refine zs4 ?_ | refine zs5 ?_); conv => whnf) | ((first | apply zi1 | apply zi2 | apply zi3 | apply zi4 | apply zi5) <;> intro _ <;> conv => whnf) | (refine VCall.intro (p1 _) ?_; conv => whnf))
  refine VMem.app1 (l := threeP) (⟨60, 0⟩ : Pn) encPn_len rfl rfl rfl rfl rfl (by decide) ?_
  conv => whnf
  repeat' (first | ((first | refine zs1 ?_ | refine zs2 ?_ | refine zs3 ?_ | refine zs4 ?_ | refine zs5 ?_); conv => whnf) | ((first | apply zi1 | apply zi2 | apply zi3 | apply zi4 | apply zi5) <;> intro _ <;> conv => whnf) | (refine VCall.intro (s2 _) ?_; conv => whnf))
  refine VMem.app1 (l := fourS2) (⟨3, 2, ⟨1, 10⟩, ⟨-1, 10⟩⟩ : Sg) encSg_len rfl rfl rfl rfl rfl (by decide) ?_
  conv => whnf
  repeat' (first | ((first | refine zs1 ?_ | refine zs2 ?_ | refine zs3 ?_ | refine zs4 ?_ | refine zs5 ?_); conv => whnf) | ((first | apply zi1 | apply zi2 | apply zi3 | apply zi4 | apply zi5) <;> intro _ <;> conv => whnf))
  refine VOut.data 8 [(5, fourP.flatMap encPn), (7, fourS.flatMap encSg)] [] rfl zf (by exact FmAll.nil) zv
end Go.Proofs.Ytdlnjnfkbneibaa

open Go.Vm
open Clip (Pn Sg Nt Bd Rt Sp Co Pl NtOk SgOk chk chk_ok bnds bnds_sz bnds_len bnds_sq regS BdSz SpSz offL)
namespace Go.Proofs.Ytdlnjnfkbneibaa
set_option maxRecDepth 20000
set_option maxHeartbeats 4000000

def spL : List Int → List Sp
  | a :: b :: r => ⟨⟨a, 1⟩, ⟨b, 1⟩⟩ :: spL r
  | _ => []
theorem spL_at {l : List Int} {k : Nat} {a b : Int} (ha : l[k]? = some a) (hb : l[k + 1]? = some b) : spL (l.drop k) = ⟨⟨a, 1⟩, ⟨b, 1⟩⟩ :: spL (l.drop (k + 2)) := by
  obtain ⟨h1, rfl⟩ := List.getElem?_eq_some_iff.1 ha
  obtain ⟨h2, rfl⟩ := List.getElem?_eq_some_iff.1 hb
  rw [List.drop_eq_getElem_cons h1, List.drop_eq_getElem_cons h2, spL]
theorem spL_end {l : List Int} {k : Nat} (h : l.length ≤ k + 1) : spL (l.drop k) = [] := by
  rcases Nat.lt_or_ge k l.length with h1 | h1
  · rw [List.drop_eq_getElem_cons h1, List.drop_of_length_le h, spL]; intros; simp at *
  · rw [List.drop_of_length_le h1, spL]; intros; contradiction
theorem vc_spots (l : List Int) (h : Hp) (hn : l.length ≤ 4000000) : VC Try.prog 52 [ints l] h (sps (spL l)) h := by
  obtain ⟨E, hE⟩ : ∃ E, E = spL l := ⟨_, rfl⟩
  rw [← hE]
  have hE : E = [] ++ spL (l.drop (2 * 0)) := hE
  refine VC.body Try.func52 rfl Try.ntmps52 Try.call52 (h.grows_refl) rfl ?_; conv => whnf
  repeat' (first | ((first | refine zs1 ?_ | refine zs2 ?_ | refine zs3 ?_ | refine zs4 ?_ | refine zs5 ?_); conv => whnf) | ((first | apply zi1 | apply zi2 | apply zi3 | apply zi4 | apply zi5) <;> intro _ <;> conv => whnf))
  refine VCode.lp (fun y : Nat × List Sp => [(0, ints l), (2, .nilslice), (3, .gl (.loc 0) 4 y.2.length), (4, I ((2 * y.1 : Nat) : Int))]) (fun y => [.flat true (y.2.flatMap encSp)]) (fun y => 2 * y.1 ≤ l.length ∧ y.2.length ≤ y.1 ∧ E = y.2 ++ spL (l.drop (2 * y.1))) (fun y => l.length - y.1) (0, []) ⟨Nat.zero_le _, Nat.zero_le _, hE⟩ ?_ ?_
  · conv => whnf
    refine Retell.turn ⟨[0], 0, [], []⟩ (TurnOk.mk' _ _ [] [] (OutOk.lift _) rfl (by decide) zb trivial trivial rfl) zv zm
  · clear hE
    rintro ⟨k, w⟩ ⟨h1, h2, h3⟩
    dsimp only at h1 h2 h3
    conv => whnf
    repeat' (first | ((first | refine zs1 ?_ | refine zs2 ?_ | refine zs3 ?_ | refine zs4 ?_ | refine zs5 ?_); conv => whnf) | ((first | apply zi1 | apply zi2 | apply zi3 | apply zi4 | apply zi5) <;> intro _ <;> conv => whnf))
    · rename_i h5
      dsimp only at h5
      have ha : l[2 * k]? = some (l[2 * k]'(by omega)) := List.getElem?_eq_getElem _
      have hb : l[2 * k + 1]? = some (l[2 * k + 1]'(by omega)) := List.getElem?_eq_getElem _
      rw [spL_at ha hb] at h3
      generalize l[2 * k]'(by omega) = a at *
      generalize l[2 * k + 1]'(by omega) = b at *
      refine zs6 [] ?_
      conv => whnf
      repeat' (first | ((first | refine zs1 ?_ | refine zs2 ?_ | refine zs3 ?_ | refine zs4 ?_ | refine zs5 ?_); conv => whnf) | ((first | apply zi1 | apply zi2 | apply zi3 | apply zi4 | apply zi5) <;> intro _ <;> conv => whnf) | (refine VAny.ix encI_len (2 * k) rfl rfl ha ?_; conv => whnf) | (refine VAny.ix encI_len (2 * k + 1) (by dsimp only; omega) rfl hb ?_; conv => whnf))
      refine VMem.app1 (l := w) (⟨⟨a, 1⟩, ⟨b, 1⟩⟩ : Sp) encSp_len rfl rfl rfl rfl rfl (by omega) ?_
      conv => whnf
      repeat' (first | ((first | refine zs1 ?_ | refine zs2 ?_ | refine zs3 ?_ | refine zs4 ?_ | refine zs5 ?_); conv => whnf) | ((first | apply zi1 | apply zi2 | apply zi3 | apply zi4 | apply zi5) <;> intro _ <;> conv => whnf))
      refine LEnd.intro (k + 1, w ++ [(⟨⟨a, 1⟩, ⟨b, 1⟩⟩ : Sp)]) ⟨by dsimp only; omega, by dsimp only; rw [List.length_append]; simp only [List.length_singleton]; omega, by dsimp only; rw [h3, List.append_assoc]; rfl⟩ (by dsimp only; omega) ?_
      conv => whnf
      rw [List.length_append]
      refine Retell.turn ⟨[2], 3, [], []⟩ (TurnOk.mk' _ _ [] [] (OutOk.lift _) rfl (by decide) zb trivial trivial rfl) zv zm
    · rename_i h5
      rw [spL_end (by dsimp only at h5; omega), List.append_nil] at h3
      subst h3
      repeat' (first | ((first | refine zs1 ?_ | refine zs2 ?_ | refine zs3 ?_ | refine zs4 ?_ | refine zs5 ?_); conv => whnf) | ((first | apply zi1 | apply zi2 | apply zi3 | apply zi4 | apply zi5) <;> intro _ <;> conv => whnf))
      refine VOut.data 1 [(0, E.flatMap encSp)] [] rfl zf (by exact FmAll.nil) zv
/-! ### Closed facts -/
theorem a01 : brE threeN 2 = 0 := by kernel_rfl
theorem a02 : (bnds threeN 2)[2]? = some ⟨2, 1, 200⟩ := by kernel_rfl
theorem a03 : (bnds threeN 2).length = 8 := by kernel_rfl
theorem a04 : crE threeN 2 = 0 := by kernel_rfl
theorem a05 : crS threeN 2 = spL [20, 40, 50, 25, 80, 40, 50, 100] := by kernel_rfl
theorem a06 : bxV Sp.X (crS threeN 2) = (20, 80) := by kernel_rfl
theorem a07 : bxV Sp.Y (crS threeN 2) = (25, 100) := by kernel_rfl
theorem a08 : asE threeN 2 ⟨1, 0⟩ = 0 := by kernel_rfl
theorem a09 : rcV threeN 2 ⟨1, 0⟩ = ⟨80, 1⟩ := by kernel_rfl
theorem a10 : prE threeN 2 ⟨0, 1⟩ ⟨[1, 2], [1, 1], 2⟩ = 0 := by kernel_rfl
theorem a11 : prV threeN 2 ⟨0, 1⟩ ⟨[1, 2], [1, 1], 2⟩ = ⟨100, 1⟩ := by kernel_rfl
theorem a12 : chk fourN = 0 := by kernel_rfl
theorem a13 : offL fourN = [1] := by kernel_rfl
theorem a14 : cvE fourN = 0 := by kernel_rfl
theorem a15 : cvV fourN = 1 := by kernel_rfl
theorem a16 : loE fourN 2 = 0 := by kernel_rfl
theorem a17 : loL fourN 2 = [1, 2] := by kernel_rfl
theorem a18 : rfE fourN 2 ⟨[2, 3, 4], [9, 10, 1], 0⟩ = 0 := by kernel_rfl
theorem a19 : rfB fourN 2 ⟨[2, 3, 4], [9, 10, 1], 0⟩ = true := by kernel_rfl
theorem a20 : crE fourN 1 = 0 := by kernel_rfl
theorem a21 : crS fourN 1 = spL [0, 0, 60, 60, 0, 60] := by kernel_rfl
end Go.Proofs.Ytdlnjnfkbneibaa

open Go.Vm
open Clip (Pn Sg Nt Bd Rt Sp Co Pl NtOk SgOk chk chk_ok bnds bnds_sz bnds_len bnds_sq regS BdSz SpSz offL)
namespace Go.Proofs.Ytdlnjnfkbneibaa
set_option maxRecDepth 20000
set_option maxHeartbeats 4000000

theorem vne65 (a b c d : Int) : vaggeq Try.prog .neq 65 (.agg [I a, I b]) (.agg [I c, I d]) = some (B (decide (¬ (a = c ∧ b = d)))) := by
  have : (!((a == c) && ((b == d) && true))) = decide (¬ (a = c ∧ b = d)) := by
    rw [Bool.eq_iff_iff, decide_eq_true_eq]; simp [-not_and]; omega
  rw [← this]
  unfold vaggeq
  rw [show eqTop Try.prog 65 = some (Sh.cons 0 1 false Sh.int (Sh.cons 1 1 false Sh.int Sh.nil)) by kernel_rfl]
  rfl
theorem vne70 (a b c d : Int) : vaggeq Try.prog .neq 70 (.agg [I a, I b]) (.agg [I c, I d]) = some (B (decide (¬ (a = c ∧ b = d)))) := by
  have : (!((a == c) && ((b == d) && true))) = decide (¬ (a = c ∧ b = d)) := by
    rw [Bool.eq_iff_iff, decide_eq_true_eq]; simp [-not_and]; omega
  rw [← this]
  unfold vaggeq
  rw [show eqTop Try.prog 70 = some (Sh.cons 0 1 false Sh.int (Sh.cons 1 1 false Sh.int Sh.nil)) by kernel_rfl]
  rfl
theorem vc_awake (h : Hp) : VC Try.prog 10 [] h (B true) h := by
  have c1 := fun h => vc_Bounds_ok threeN 2 h a01
  have c2 := fun h => vc_Corners threeN 2 h (by decide) (by decide)
  have c3 := fun h => vc_Box threeN 2 h (by decide) (by decide)
  have c4 := fun h => vc_Reach threeN 2 ⟨1, 0⟩ h (by decide) (by decide)
  have c5 := fun h => vc_Proves threeN 2 ⟨0, 1⟩ ⟨[1, 2], [1, 1], 2⟩ h (by decide) (by decide) (by decide) (by decide)
  have c6 := fun h => vc_Off_ok fourN h (chk_ok.1 a12)
  have c7 := fun h => vc_Convict fourN h (by decide) (by decide)
  have c8 := fun h => vc_Loose fourN 2 h (by decide) (by decide)
  have c9 := fun h => vc_Refutes fourN 2 ⟨[2, 3, 4], [9, 10, 1], 0⟩ h (by decide) (by decide) (by decide) (by decide)
  have c10 := fun h => vc_Corners fourN 1 h (by decide) (by decide)
  have p1 := fun h => vc_point 1 0 h
  have p2 := fun h => vc_point 0 1 h
  have s1 := fun h => vc_spots [20, 40, 50, 25, 80, 40, 50, 100] h (by decide)
  have s2 := fun h => vc_spots [0, 0, 60, 60, 0, 60] h (by decide)
  have hb := a02
  have hl := a03
  rw [a06, a07] at c3
  rw [a04, a05] at c2
  rw [a04] at c3
  rw [a08, a09] at c4
  rw [a10, a11] at c5
  rw [a13] at c6
  rw [a14, a15] at c7
  rw [a16, a17] at c8
  rw [a18, a19] at c9
  rw [a20, a21] at c10
  have q1 := fun h => vc_equalSp (spL [20, 40, 50, 25, 80, 40, 50, 100]) (spL [20, 40, 50, 25, 80, 40, 50, 100]) h (by decide) (by decide)
  have q2 := fun h => vc_equalSp (spL [0, 0, 60, 60, 0, 60]) (spL [0, 0, 60, 60, 0, 60]) h (by decide) (by decide)
  rw [decide_eq_true rfl] at q1 q2
  have q3 := vc_equalI [1] [1] Hp.bare (by decide) (by decide)
  have q4 := vc_equalI [1, 2] [1, 2] Hp.bare (by decide) (by decide)
  rw [decide_eq_true rfl] at q3 q4
  obtain ⟨cs, hcs⟩ : ∃ cs, cs = (bnds threeN 2).flatMap encBd := ⟨_, rfl⟩
  have eb : bds (bnds threeN 2) = .fs 3 8 cs := by rw [hcs]; unfold bds; rw [a03]
  have hix : ∀ K : V → Prop, K (.fp (encBd ⟨2, 1, 200⟩)) → VAny (IdxP 3 8 cs 2) K := fun K hK => by rw [hcs]; exact VAny.ix encBd_len 2 rfl a03.symm a02 hK
  rw [eb] at c1
  generalize spL [20, 40, 50, 25, 80, 40, 50, 100] = sA at *
  generalize spL [0, 0, 60, 60, 0, 60] = sB at *
  refine VC.bodyC 5 Try.func10 rfl Try.ntmps10 Try.call10 (h.grows_refl) rfl ?_; conv => whnf
  repeat' (first | ((first | refine zs1 ?_ | refine zs2 ?_ | refine zs3 ?_ | refine zs4 ?_ | refine zs5 ?_); conv => whnf) | ((first | apply zi1 | apply zi2 | apply zi3 | apply zi4 | apply zi5) <;> intro _ <;> conv => whnf) | (refine VCall.intro (vc_Three _) ?_; conv => whnf) | (refine VCall.intro (c1 _) ?_; conv => whnf) | (refine VCall.intro (c2 _) ?_; conv => whnf) | (refine VCall.intro (c3 _) ?_; conv => whnf) | (refine VCall.intro (c4 _) ?_; conv => whnf) | (refine VCall.intro (p1 _) ?_; conv => whnf) | (refine VCall.intro (p2 _) ?_; conv => whnf))
  refine VCut.at' (outer := h.lift) (marks := []) 1 [(1, .fs 3 8 cs), (2, I 0), (3, sps sA), (4, I 0), (5, .fp [DI 20, DI 80]), (6, .fp [DI 25, DI 100]), (7, I 0), (8, .fp [DI 80, DI 1]), (9, I 0)] [] ?_ ?_
  · conv => whnf
    refine Retell.turn ⟨[], 3, [(0, [DI 20, DI 80]), (1, [DI 25, DI 100]), (2, [DI 80, DI 1])], []⟩ (TurnOk.mk' _ _ [(0, [DI 20, DI 80]), (1, [DI 25, DI 100]), (2, [DI 80, DI 1])] [] (OutOk.lift _) rfl (by decide) zb zf trivial rfl) zv zm
  conv => whnf
  repeat' (first | ((first | refine zs1 ?_ | refine zs2 ?_ | refine zs3 ?_ | refine zs4 ?_ | refine zs5 ?_); conv => whnf) | ((first | apply zi1 | apply zi2 | apply zi3 | apply zi4 | apply zi5) <;> intro _ <;> conv => whnf) | (refine VCall.intro (vc_Three _) ?_; conv => whnf) | (refine VCall.intro (p2 _) ?_; conv => whnf))
  refine VCall.intro (VC.give (args' := [vN threeN, I 2, vPn ⟨0, 1⟩, vPf ⟨[1, 2], [1, 1], 2⟩]) (loc' := [.dead, .dead]) [(0, [DI 1, DI 2]), (1, [DI 1, DI 1])] [] (OutOk.lift _) zb zf (by exact FmAll.nil) rfl zv (c5 _)) ?_
  conv => whnf
  repeat' (first | ((first | refine zs1 ?_ | refine zs2 ?_ | refine zs3 ?_ | refine zs4 ?_ | refine zs5 ?_); conv => whnf) | ((first | apply zi1 | apply zi2 | apply zi3 | apply zi4 | apply zi5) <;> intro _ <;> conv => whnf))
  refine VCut.at' (outer := h.lift) (marks := []) 1 [(1, .fs 3 8 cs), (2, I 0), (3, sps sA), (4, I 0), (5, .fp [DI 20, DI 80]), (6, .fp [DI 25, DI 100]), (7, I 0), (8, .fp [DI 80, DI 1]), (9, I 0), (10, .fp [DI 100, DI 1]), (11, I 0)] [] ?_ ?_
  · conv => whnf
    refine Retell.turn ⟨[], 3, [(2, [DI 100, DI 1])], []⟩ (TurnOk.mk' _ _ [(2, [DI 100, DI 1])] [] (OutOk.lift _) rfl (by decide) zb zf trivial rfl) zv zm
  conv => whnf
  repeat' (first | ((first | refine zs1 ?_ | refine zs2 ?_ | refine zs3 ?_ | refine zs4 ?_ | refine zs5 ?_); conv => whnf) | ((first | apply zi1 | apply zi2 | apply zi3 | apply zi4 | apply zi5) <;> intro _ <;> conv => whnf) | (refine hix _ ?_; conv => whnf) | (refine VAgg.intro (vne49 _ _ _ _ _ _) ?_; conv => whnf))
  refine VCall.intro (VC.give (args' := [ints [20, 40, 50, 25, 80, 40, 50, 100]]) (loc' := [.dead]) [(0, [DI 20, DI 40, DI 50, DI 25, DI 80, DI 40, DI 50, DI 100])] [] (OutOk.lift _) zb zf (by exact FmAll.nil) rfl zv (s1 _)) ?_
  conv => whnf
  repeat' (first | ((first | refine zs1 ?_ | refine zs2 ?_ | refine zs3 ?_ | refine zs4 ?_ | refine zs5 ?_); conv => whnf) | ((first | apply zi1 | apply zi2 | apply zi3 | apply zi4 | apply zi5) <;> intro _ <;> conv => whnf) | (refine VCall.intro (q1 _) ?_; conv => whnf) | (refine VAgg.intro (vne65 _ _ _ _) ?_; conv => whnf) | (refine VAgg.intro (vne70 _ _ _ _) ?_; conv => whnf))
  refine VCut.at' (outer := h.lift) (marks := []) 3 [] [] ?_ ?_
  · conv => whnf
    refine Retell.turn ⟨[], 1, [], []⟩ (TurnOk.mk' _ _ [] [] (OutOk.lift _) rfl (by decide) zb trivial trivial rfl) zv zm
  conv => whnf
  repeat' (first | ((first | refine zs1 ?_ | refine zs2 ?_ | refine zs3 ?_ | refine zs4 ?_ | refine zs5 ?_); conv => whnf) | ((first | apply zi1 | apply zi2 | apply zi3 | apply zi4 | apply zi5) <;> intro _ <;> conv => whnf) | (refine VCall.intro (vc_Four _) ?_; conv => whnf) | (refine VCall.intro (c6 _) ?_; conv => whnf) | (refine VCall.intro (c7 _) ?_; conv => whnf) | (refine VCall.intro (c8 _) ?_; conv => whnf))
  refine VCut.at' (outer := h.lift) (marks := []) 1 [(2, I 0), (4, I 0), (7, I 0), (12, ints [1]), (13, I 1), (14, ints [1, 2])] [] ?_ ?_
  · conv => whnf
    refine Retell.turn ⟨[], 0, [], []⟩ (TurnOk.mk' _ _ [] [] (OutOk.lift _) rfl (by decide) zb trivial trivial rfl) zv zm
  conv => whnf
  repeat' (first | ((first | refine zs1 ?_ | refine zs2 ?_ | refine zs3 ?_ | refine zs4 ?_ | refine zs5 ?_); conv => whnf) | ((first | apply zi1 | apply zi2 | apply zi3 | apply zi4 | apply zi5) <;> intro _ <;> conv => whnf) | (refine VCall.intro (vc_Four _) ?_; conv => whnf))
  refine VCall.intro (VC.give (args' := [vN fourN, I 2, vPf ⟨[2, 3, 4], [9, 10, 1], 0⟩]) (loc' := [.dead, .dead]) [(0, [DI 2, DI 3, DI 4]), (1, [DI 9, DI 10, DI 1])] [] (OutOk.lift _) zb zf (by exact FmAll.nil) rfl zv (c9 _)) ?_
  conv => whnf
  repeat' (first | ((first | refine zs1 ?_ | refine zs2 ?_ | refine zs3 ?_ | refine zs4 ?_ | refine zs5 ?_); conv => whnf) | ((first | apply zi1 | apply zi2 | apply zi3 | apply zi4 | apply zi5) <;> intro _ <;> conv => whnf))
  refine VCut.at' (outer := h.lift) (marks := []) 1 [(2, I 0), (4, I 0), (7, I 0), (9, I 0), (12, ints [1]), (13, I 1), (14, ints [1, 2]), (15, B true)] [] ?_ ?_
  · conv => whnf
    refine Retell.turn ⟨[], 2, [], []⟩ (TurnOk.mk' _ _ [] [] (OutOk.lift _) rfl (by decide) zb trivial trivial rfl) zv zm
  conv => whnf
  repeat' (first | ((first | refine zs1 ?_ | refine zs2 ?_ | refine zs3 ?_ | refine zs4 ?_ | refine zs5 ?_); conv => whnf) | ((first | apply zi1 | apply zi2 | apply zi3 | apply zi4 | apply zi5) <;> intro _ <;> conv => whnf) | (refine VCall.intro (vc_Four _) ?_; conv => whnf) | (refine VCall.intro (c10 _) ?_; conv => whnf))
  refine VCut.at' (outer := h.lift) (marks := []) 99 [(2, I 0), (3, sps sB), (4, I 0), (7, I 0), (9, I 0), (11, I 0), (12, ints [1]), (13, I 1), (14, ints [1, 2]), (15, B true)] [] ?_ ?_
  · conv => whnf
    refine Retell.turn ⟨[], 0, [], []⟩ (TurnOk.mk' _ _ [] [] (OutOk.lift _) rfl (by decide) zb trivial trivial rfl) zv zm
  conv => whnf
  repeat' (first | ((first | refine zs1 ?_ | refine zs2 ?_ | refine zs3 ?_ | refine zs4 ?_ | refine zs5 ?_); conv => whnf) | ((first | apply zi1 | apply zi2 | apply zi3 | apply zi4 | apply zi5) <;> intro _ <;> conv => whnf))
  refine VCall.intro (VC.lend1 [dints [1], dints [1]] [(0, [DI 1])] [] zf trivial zv q3) ?_
  conv => whnf
  repeat' (first | ((first | refine zs1 ?_ | refine zs2 ?_ | refine zs3 ?_ | refine zs4 ?_ | refine zs5 ?_); conv => whnf) | ((first | apply zi1 | apply zi2 | apply zi3 | apply zi4 | apply zi5) <;> intro _ <;> conv => whnf))
  refine VCall.intro (VC.lend1 [dints [1, 2], dints [1, 2]] [(1, [DI 1, DI 2])] [] zf trivial zv q4) ?_
  conv => whnf
  repeat' (first | ((first | refine zs1 ?_ | refine zs2 ?_ | refine zs3 ?_ | refine zs4 ?_ | refine zs5 ?_); conv => whnf) | ((first | apply zi1 | apply zi2 | apply zi3 | apply zi4 | apply zi5) <;> intro _ <;> conv => whnf))
  refine VCall.intro (VC.give (args' := [ints [0, 0, 60, 60, 0, 60]]) (loc' := [.flat true [DI 1], .flat true [DI 1, DI 2], .dead]) [(2, [DI 0, DI 0, DI 60, DI 60, DI 0, DI 60])] [] (OutOk.lift _) zb zf (by exact FmAll.nil) rfl zv (s2 _)) ?_
  conv => whnf
  repeat' (first | ((first | refine zs1 ?_ | refine zs2 ?_ | refine zs3 ?_ | refine zs4 ?_ | refine zs5 ?_); conv => whnf) | ((first | apply zi1 | apply zi2 | apply zi3 | apply zi4 | apply zi5) <;> intro _ <;> conv => whnf) | (refine VCall.intro (q2 _) ?_; conv => whnf))
  exact VOut.same rfl
end Go.Proofs.Ytdlnjnfkbneibaa

open Go.Vm
open Clip (Pn Sg Nt Bd Rt Sp Co Pl NtOk SgOk chk chk_ok bnds bnds_sz bnds_len bnds_sq regS BdSz SpSz offL mvL)
namespace Go.Proofs.Ytdlnjnfkbneibaa
set_option maxRecDepth 20000
set_option maxHeartbeats 4000000

/-! ### What is answered, errors and all -/
def ofL (N : Nt) : List Int := if chk N = 0 then offL N else []
def bdL (N : Nt) (p : Int) : List Bd := if brE N p = 0 then bnds N p else []
def mvA (N : Nt) : List Int := if mvE N = 0 then mvL N else []
theorem vc_OffU (N : Nt) (h : Hp) (hn : N.ps.length ≤ 4000000) (hm : N.ss.length ≤ 4000000) : VC Try.prog 15 [vN N] h (.tuple [ints (ofL N), I (chk N)]) h := by
  unfold ofL
  by_cases h0 : chk N = 0
  · rw [if_pos h0, h0]; exact vc_Off_ok N h (chk_ok.1 h0)
  · rw [if_neg h0]
    have c := fun h => vc_check N h hn hm
    generalize chk N = E at c h0
    refine VC.body Try.func15 rfl Try.ntmps15 Try.call15 (h.grows_refl) rfl ?_; conv => whnf
    repeat' (first | ((first | refine zs1 ?_ | refine zs2 ?_ | refine zs3 ?_ | refine zs4 ?_ | refine zs5 ?_ | refine zs6 [] ?_); conv => whnf) | ((first | apply zi1 | apply zi2 | apply zi3 | apply zi4 | apply zi5) <;> intro _ <;> conv => whnf) | (refine VCall.intro (c _) ?_; conv => whnf))
    · refine VOut.data 1 [] [] rfl zf (by exact FmAll.nil) zv
    · exfalso; omega
theorem vc_rOffU (N : Nt) (h : Hp) (hn : N.ps.length ≤ 4000000) (hm : N.ss.length ≤ 4000000) : VC Try.prog 16 [vN N] h (.tuple [ints (ofL N), I (chk N)]) h := by
  unfold ofL
  by_cases h0 : chk N = 0
  · rw [if_pos h0, h0]; exact vc_rOff_ok N h (chk_ok.1 h0)
  · rw [if_neg h0]
    have c := fun h => vc_rcheck N h hn hm
    generalize chk N = E at c h0
    refine VC.body Try.func16 rfl Try.ntmps16 Try.call16 (h.grows_refl) rfl ?_; conv => whnf
    repeat' (first | ((first | refine zs1 ?_ | refine zs2 ?_ | refine zs3 ?_ | refine zs4 ?_ | refine zs5 ?_ | refine zs6 [] ?_); conv => whnf) | ((first | apply zi1 | apply zi2 | apply zi3 | apply zi4 | apply zi5) <;> intro _ <;> conv => whnf) | (refine VCall.intro (c _) ?_; conv => whnf))
    · refine VOut.data 1 [] [] rfl zf (by exact FmAll.nil) zv
    · exfalso; omega
theorem vc_BoundsU (N : Nt) (p : Int) (h : Hp) (hn : N.ps.length ≤ 4000000) (hm : N.ss.length ≤ 4000000) : VC Try.prog 18 [vN N, I p] h (.tuple [bds (bdL N p), I (brE N p)]) h := by
  unfold bdL
  by_cases h0 : brE N p = 0
  · rw [if_pos h0, h0]; exact vc_Bounds_ok N p h h0
  · rw [if_neg h0]
    have c := fun h => vc_begun N p h hn hm
    generalize brE N p = E at c h0
    refine VC.body Try.func18 rfl Try.ntmps18 Try.call18 (h.grows_refl) rfl ?_; conv => whnf
    repeat' (first | ((first | refine zs1 ?_ | refine zs2 ?_ | refine zs3 ?_ | refine zs4 ?_ | refine zs5 ?_ | refine zs6 [] ?_); conv => whnf) | ((first | apply zi1 | apply zi2 | apply zi3 | apply zi4 | apply zi5) <;> intro _ <;> conv => whnf) | (refine VCall.intro (c _) ?_; conv => whnf))
    · refine VOut.data 1 [] [] rfl zf (by exact FmAll.nil) zv
    · exfalso; omega
theorem vc_rBoundsU (N : Nt) (p : Int) (h : Hp) (hn : N.ps.length ≤ 4000000) (hm : N.ss.length ≤ 4000000) : VC Try.prog 19 [vN N, I p] h (.tuple [bds (bdL N p), I (brE N p)]) h := by
  unfold bdL
  by_cases h0 : brE N p = 0
  · rw [if_pos h0, h0]; exact vc_rBounds_ok N p h h0
  · rw [if_neg h0]
    have c := fun h => vc_rPillar N p h hn hm
    generalize brE N p = E at c h0
    refine VC.body Try.func19 rfl Try.ntmps19 Try.call19 (h.grows_refl) rfl ?_; conv => whnf
    repeat' (first | ((first | refine zs1 ?_ | refine zs2 ?_ | refine zs3 ?_ | refine zs4 ?_ | refine zs5 ?_ | refine zs6 [] ?_); conv => whnf) | ((first | apply zi1 | apply zi2 | apply zi3 | apply zi4 | apply zi5) <;> intro _ <;> conv => whnf) | (refine VCall.intro (c _) ?_; conv => whnf))
    · refine VOut.data 1 [] [] rfl zf (by exact FmAll.nil) zv
    · exfalso; omega
theorem vc_MoversU (N : Nt) (h : Hp) (hn : N.ps.length ≤ 4000000) (hm : N.ss.length ≤ 4000000) : VC Try.prog 20 [vN N] h (.tuple [ints (mvA N), I (mvE N)]) h := by
  unfold mvA
  by_cases h0 : mvE N = 0
  · rw [if_pos h0, h0]; exact vc_Movers_ok N h (mvE_ok.1 h0).1 (mvE_ok.1 h0).2
  · rw [if_neg h0]
    by_cases hc : chk N = 0
    · have o := chk_ok.1 hc
      have c := fun h => vc_Off_ok N h o
      have he : offL N = [] := Classical.byContradiction fun e => h0 (mvE_ok.2 ⟨o, e⟩)
      have e : mvE N = 10 := by unfold mvE; rw [if_neg (by omega), if_pos he]
      rw [he] at c
      rw [e]
      refine VC.body Try.func20 rfl Try.ntmps20 Try.call20 (h.grows_refl) rfl ?_; conv => whnf
      repeat' (first | ((first | refine zs1 ?_ | refine zs2 ?_ | refine zs3 ?_ | refine zs4 ?_ | refine zs5 ?_ | refine zs6 [] ?_); conv => whnf) | ((first | apply zi1 | apply zi2 | apply zi3 | apply zi4 | apply zi5) <;> intro _ <;> conv => whnf) | (refine VCall.intro (c _) ?_; conv => whnf))
      · refine VOut.data 1 [] [] rfl zf (by exact FmAll.nil) zv
    · have c := fun h => vc_Off_no N h hn hm hc
      have e : mvE N = chk N := by unfold mvE; rw [if_pos hc]
      rw [e]
      generalize chk N = E at c hc
      refine VC.body Try.func20 rfl Try.ntmps20 Try.call20 (h.grows_refl) rfl ?_; conv => whnf
      repeat' (first | ((first | refine zs1 ?_ | refine zs2 ?_ | refine zs3 ?_ | refine zs4 ?_ | refine zs5 ?_ | refine zs6 [] ?_); conv => whnf) | ((first | apply zi1 | apply zi2 | apply zi3 | apply zi4 | apply zi5) <;> intro _ <;> conv => whnf) | (refine VCall.intro (c _) ?_; conv => whnf))
      · refine VOut.data 1 [] [] rfl zf (by exact FmAll.nil) zv
      · exfalso; omega
theorem vc_rMoversU (N : Nt) (h : Hp) (hn : N.ps.length ≤ 4000000) (hm : N.ss.length ≤ 4000000) : VC Try.prog 21 [vN N] h (.tuple [ints (mvA N), I (mvE N)]) h := by
  unfold mvA
  by_cases h0 : mvE N = 0
  · rw [if_pos h0, h0]; exact vc_rMovers_ok N h (mvE_ok.1 h0).1 (mvE_ok.1 h0).2
  · rw [if_neg h0]
    by_cases hc : chk N = 0
    · have o := chk_ok.1 hc
      have c := fun h => vc_rOff_ok N h o
      have he : offL N = [] := Classical.byContradiction fun e => h0 (mvE_ok.2 ⟨o, e⟩)
      have e : mvE N = 10 := by unfold mvE; rw [if_neg (by omega), if_pos he]
      rw [he] at c
      rw [e]
      refine VC.body Try.func21 rfl Try.ntmps21 Try.call21 (h.grows_refl) rfl ?_; conv => whnf
      repeat' (first | ((first | refine zs1 ?_ | refine zs2 ?_ | refine zs3 ?_ | refine zs4 ?_ | refine zs5 ?_ | refine zs6 [] ?_); conv => whnf) | ((first | apply zi1 | apply zi2 | apply zi3 | apply zi4 | apply zi5) <;> intro _ <;> conv => whnf) | (refine VCall.intro (c _) ?_; conv => whnf))
      · refine VOut.data 1 [] [] rfl zf (by exact FmAll.nil) zv
    · have c := fun h => vc_rOff_no N h hn hm hc
      have e : mvE N = chk N := by unfold mvE; rw [if_pos hc]
      rw [e]
      generalize chk N = E at c hc
      refine VC.body Try.func21 rfl Try.ntmps21 Try.call21 (h.grows_refl) rfl ?_; conv => whnf
      repeat' (first | ((first | refine zs1 ?_ | refine zs2 ?_ | refine zs3 ?_ | refine zs4 ?_ | refine zs5 ?_ | refine zs6 [] ?_); conv => whnf) | ((first | apply zi1 | apply zi2 | apply zi3 | apply zi4 | apply zi5) <;> intro _ <;> conv => whnf) | (refine VCall.intro (c _) ?_; conv => whnf))
      · refine VOut.data 1 [] [] rfl zf (by exact FmAll.nil) zv
      · exfalso; omega
def longB (N : Nt) : Bool := decide (13 < N.ps.length ∨ (10 < N.ss.length ∧ N.ss.length ≤ 20) ∨ 23 < N.ss.length)
theorem vc_long (N : Nt) (h : Hp) : VC Try.prog 9 [vN N] h (B (longB N)) h := by
  unfold longB
  refine VC.body Try.func9 rfl Try.ntmps9 Try.call9 (h.grows_refl) rfl ?_; conv => whnf
  repeat' (first | ((first | refine zs1 ?_ | refine zs2 ?_ | refine zs3 ?_ | refine zs4 ?_ | refine zs5 ?_ | refine zs6 [] ?_); conv => whnf) | ((first | apply zi1 | apply zi2 | apply zi3 | apply zi4 | apply zi5) <;> intro _ <;> conv => whnf))
  all_goals (refine VOut.dec ?_; first | (simp only [decide_eq_true_eq]; omega) | (simp; omega) | (simp; done))
theorem vc_SightBounds (N : Nt) (p : Int) (h : Hp) : VC Try.prog 3 [vN N, I p] h (B true) h := by
  have cL := fun h => vc_long N h
  obtain ⟨b, hb⟩ : ∃ b, b = longB N := ⟨_, rfl⟩
  rw [← hb] at cL
  cases b with
  | true =>
    refine VC.body Try.func3 rfl Try.ntmps3 Try.call3 (h.grows_refl) rfl ?_; conv => whnf
    repeat' (first | ((first | refine zs1 ?_ | refine zs2 ?_ | refine zs3 ?_ | refine zs4 ?_ | refine zs5 ?_); conv => whnf) | ((first | apply zi1 | apply zi2 | apply zi3 | apply zi4 | apply zi5) <;> intro _ <;> conv => whnf) | (refine VCall.intro (cL _) ?_; conv => whnf) | (refine VCall.intro (vc_awake _) ?_; conv => whnf))
    exact VOut.same rfl
  | false =>
    unfold longB at hb
    have hl : N.ps.length ≤ 13 ∧ N.ss.length ≤ 23 := by
      have := of_decide_eq_false hb.symm; omega
    have c1 := fun h => vc_CloneNet N h (by omega) (by omega)
    have c2 := fun h => vc_Net N h (by omega) (by omega)
    have c3 := fun h => vc_check N h (by omega) (by omega)
    have c4 := fun h => vc_rcheck N h (by omega) (by omega)
    have c5 := fun h => vc_OffU N h (by omega) (by omega)
    have c6 := fun h => vc_rOffU N h (by omega) (by omega)
    have c7 := fun h => vc_BoundsU N p h (by omega) (by omega)
    have c8 := fun h => vc_rBoundsU N p h (by omega) (by omega)
    have c9 := fun h => vc_MoversU N h (by omega) (by omega)
    have c10 := fun h => vc_rMoversU N h (by omega) (by omega)
    have c11 := fun h => vc_Convict N h (by omega) (by omega)
    have c12 := fun h => vc_rConvict N h (by omega) (by omega)
    have c13 := fun h => vc_equal N N h (by omega) (by omega) (by omega) (by omega)
    rw [decide_eq_true rfl, decide_eq_true rfl] at c13
    have l1 : (ofL N).length ≤ 4000000 := by
      have := offL_len N
      unfold ofL; split
      · omega
      · simp
    have l2 : (mvA N).length ≤ 4000000 := by
      have := mvL_len N
      unfold mvA; split
      · omega
      · simp
    have l3 : (bdL N p).length ≤ 4000000 := by
      unfold bdL; split
      · rename_i h0
        have := bnds_len (brE_ok.1 h0).1 p; omega
      · simp
    have e1 := fun h => vc_equalI (ofL N) (ofL N) h l1 l1
    have e2 := fun h => vc_equalI (mvA N) (mvA N) h l2 l2
    rw [decide_eq_true rfl] at e1 e2
    generalize ofL N = O at *
    generalize mvA N = M at *
    generalize bdL N p = bs at *
    generalize chk N = E1 at *
    generalize brE N p = E2 at *
    generalize mvE N = E3 at *
    generalize cvE N = E4 at *
    generalize cvV N = V4 at *
    refine VC.bodyC 2 Try.func3 rfl Try.ntmps3 Try.call3 (h.grows_refl) rfl ?_; conv => whnf
    repeat' (first | ((first | refine zs1 ?_ | refine zs2 ?_ | refine zs3 ?_ | refine zs4 ?_ | refine zs5 ?_); conv => whnf) | ((first | apply zi1 | apply zi2 | apply zi3 | apply zi4 | apply zi5) <;> intro _ <;> conv => whnf) | (refine VCall.intro (cL _) ?_; conv => whnf))
    refine VCut.go 1 ?_
    conv => whnf
    refine zs6 [(1, 2)] ?_
    conv => whnf
    repeat' (first | ((first | refine zs1 ?_ | refine zs2 ?_ | refine zs3 ?_ | refine zs4 ?_ | refine zs5 ?_); conv => whnf) | ((first | apply zi1 | apply zi2 | apply zi3 | apply zi4 | apply zi5) <;> intro _ <;> conv => whnf) | (refine VCall.intro (c1 _) ?_; conv => whnf) | (refine VCall.intro (c2 _) ?_; conv => whnf))
    refine VCut.at' (outer := h.lift) (marks := []) 99 [(1, I p), (2, .fp (encN N)), (4, B false), (5, .fp (encN N)), (6, .fp (encN N))] [] ?_ ?_
    · conv => whnf
      refine Retell.turn ⟨[], 3, [(0, encN N), (1, encN N), (2, encN N)], []⟩ (TurnOk.mk' _ _ [(0, encN N), (1, encN N), (2, encN N)] [] (OutOk.lift _) rfl (by decide) zb zf trivial rfl) zv zm
    conv => whnf
    refine zs6 [(1, 2)] ?_
    conv => whnf
    repeat' (first | ((first | refine zs1 ?_ | refine zs2 ?_ | refine zs3 ?_ | refine zs4 ?_ | refine zs5 ?_); conv => whnf) | ((first | apply zi1 | apply zi2 | apply zi3 | apply zi4 | apply zi5) <;> intro _ <;> conv => whnf) | (refine VCall.intro (c3 _) ?_; conv => whnf) | (refine VCall.intro (c4 _) ?_; conv => whnf) | (refine VCall.intro (c5 _) ?_; conv => whnf) | (refine VCall.intro (c6 _) ?_; conv => whnf) | (refine VCall.intro (c7 _) ?_; conv => whnf) | (refine VCall.intro (c8 _) ?_; conv => whnf) | (refine VCall.intro (e1 _) ?_; conv => whnf))
    all_goals try (exfalso; omega)
    refine VCode.lp (fun k : Nat => [(1, I p), (2, .fp (encN N)), (4, B false), (5, .fp (encN N)), (6, .fp (encN N)), (11, bds bs), (12, bds bs), (70, I bs.length), (71, I k)]) (fun _ => []) (fun k => k ≤ bs.length) (fun k => bs.length - k) 0 (Nat.zero_le _) ?_ ?_
    · conv => whnf
      refine Retell.turn ⟨[], 0, [], []⟩ (TurnOk.mk' _ _ [] [] (OutOk.lift _) rfl (by decide) zb trivial trivial rfl) zv zm
    · intro k hk
      conv => whnf
      refine VIte.dec (fun h3 => ?_) (fun h3 => ?_)
      · have hbk : bs[k]? = some bs[k] := List.getElem?_eq_getElem (by omega)
        generalize bs[k] = b at hbk
        conv => whnf
        repeat' (first | ((first | refine zs1 ?_ | refine zs2 ?_ | refine zs3 ?_ | refine zs4 ?_ | refine zs5 ?_); conv => whnf) | ((first | apply zi1 | apply zi2 | apply zi3 | apply zi4 | apply zi5) <;> intro _ <;> conv => whnf))
        refine zs6 [] ?_
        conv => whnf
        repeat' (first | ((first | refine zs1 ?_ | refine zs2 ?_ | refine zs3 ?_ | refine zs4 ?_ | refine zs5 ?_); conv => whnf) | ((first | apply zi1 | apply zi2 | apply zi3 | apply zi4 | apply zi5) <;> intro _ <;> conv => whnf) | (refine VAny.ix encBd_len k rfl rfl hbk ?_; conv => whnf) | (refine VAgg.intro (vne49 _ _ _ _ _ _) ?_; conv => whnf))
        · rename_i hz; exact absurd ⟨rfl, rfl, rfl⟩ hz
        refine LEnd.intro (k + 1) (by omega) (by omega) ?_
        conv => whnf
        refine Retell.turn ⟨[], 0, [], []⟩ (TurnOk.mk' _ _ [] [] (OutOk.lift _) rfl (by decide) zb trivial trivial rfl) zv zm
      · conv => whnf
        repeat' (first | ((first | refine zs1 ?_ | refine zs2 ?_ | refine zs3 ?_ | refine zs4 ?_ | refine zs5 ?_); conv => whnf) | ((first | apply zi1 | apply zi2 | apply zi3 | apply zi4 | apply zi5) <;> intro _ <;> conv => whnf) | (refine VCall.intro (c9 _) ?_; conv => whnf) | (refine VCall.intro (c10 _) ?_; conv => whnf) | (refine VCall.intro (c11 _) ?_; conv => whnf) | (refine VCall.intro (c12 _) ?_; conv => whnf) | (refine VCall.intro (c13 _) ?_; conv => whnf) | (refine VCall.intro (e2 _) ?_; conv => whnf) | (refine VCall.intro (vc_awake _) ?_; conv => whnf))
        all_goals first | (exfalso; omega) | (exact VOut.same rfl)
end Go.Proofs.Ytdlnjnfkbneibaa

open Go.Vm
open Clip (Pn Sg Nt)
namespace Go.Proofs.Ytdlnjnfkbneibaa
open Go.ChangeShapes Go.WideShapes Go.ChangeAt Go.RowKit

theorem Opens.struct4 {P : Program} {α β γ δ : Type} {ea : α → List D} {eb : β → List D} {ec : γ → List D} {ed : δ → List D} {t : TypeId} {f0 f1 f2 f3 : Field} (m0 m1 m2 m3 : Nat) (ht : P.underlying t = some (.struct #[f0, f1, f2, f3])) (hc : P.cellsOf t = m0 + (m1 + (m2 + m3))) (h0 : f0.offset = 0) (h1 : f1.offset = m0) (h2 : f2.offset = m0 + m1) (h3 : f3.offset = m0 + m1 + m2)
    (c0 : P.cellsOf f0.type = m0) (c1 : P.cellsOf f1.type = m1) (c2 : P.cellsOf f2.type = m2) (c3 : P.cellsOf f3.type = m3) (ha : Opens P f0.type ea) (hb : Opens P f1.type eb) (hcc : Opens P f2.type ec) (hd4 : Opens P f3.type ed) : Opens P t (fun x : α × β × γ × δ => ea x.1 ++ (eb x.2.1 ++ (ec x.2.2.1 ++ ed x.2.2.2))) := by
  intro W H en sp hd fuel cs x h
  obtain ⟨y0, y1, y2, y3, n, _, hl, g0, g1, g2, g3⟩ := Go.Joins.trod_struct4 ht h
  rw [h0, c0] at g0
  rw [h1, c1] at g1
  rw [h2, c2] at g2
  rw [h3, c3] at g3
  obtain ⟨a, a1, a2⟩ := ha W H en sp hd n _ _ g0
  obtain ⟨b, b1, b2⟩ := hb W H en sp hd n _ _ g1
  obtain ⟨c, d1, d2⟩ := hcc W H en sp hd n _ _ g2
  obtain ⟨d, e1, e2'⟩ := hd4 W H en sp hd n _ _ g3
  have e := take_all (m0 := m0) (m1 := m1 + (m2 + m3)) (cs := cs) (by rw [hl, hc])
  have e2 : (cs.drop m0).take (m1 + (m2 + m3)) = (cs.drop m0).take m1 ++ ((cs.drop (m0 + m1)).take m2 ++ (cs.drop (m0 + m1 + m2)).take m3) := by rw [List.take_add, List.drop_drop, List.take_add, List.drop_drop]
  refine ⟨(a, b, c, d), ?_, fun v hv => ?_⟩
  · rw [e, e2]; exact DRs.append a1 (DRs.append b1 (DRs.append d1 e1))
  · rw [e, e2] at hv
    simp only [List.mem_append] at hv
    rcases hv with hv | hv | hv | hv
    · exact a2 v hv
    · exact b2 v hv
    · exact d2 v hv
    · exact e2' v hv
theorem open3 : Opens Try.prog 3 (fun n : Int => [DI n]) := Opens.int Try.underlying3
theorem open60 : Opens Try.prog 60 encPn := (Opens.struct2 1 1 Try.underlying60 (by kernel_rfl) rfl rfl (by kernel_rfl) (by kernel_rfl) open3 open3).as (fun x => ⟨x.1, x.2⟩) encPn fun _ => rfl
theorem open85 : Opens Try.prog 85 encSg := (Opens.struct4 1 1 2 2 Try.underlying85 (by kernel_rfl) rfl rfl rfl rfl (by kernel_rfl) (by kernel_rfl) (by kernel_rfl) (by kernel_rfl) open3 open3 open60 open60).as (fun x => ⟨x.1, x.2.1, x.2.2.1, x.2.2.2⟩) encSg fun _ => rfl
theorem open22 : Opens Try.prog 22 (fun l : List Pn => [D.sl 2 l.length (l.flatMap encPn)]) := Opens.slice Try.underlying22 encPn_len (by kernel_rfl) (by decide) open60
theorem open23 : Opens Try.prog 23 (fun l : List Sg => [D.sl 6 l.length (l.flatMap encSg)]) := Opens.slice Try.underlying23 encSg_len (by kernel_rfl) (by decide) open85
theorem open25 : Opens Try.prog 25 encN := (Opens.struct2 1 1 Try.underlying25 (by kernel_rfl) rfl rfl (by kernel_rfl) (by kernel_rfl) open22 open23).as (fun x => ⟨x.1, x.2⟩) encN fun _ => rfl
def dN (l : Nt) : D := .agg (encN l)
theorem openN : OpenV Try.prog 25 dN := OpenV.struct Try.underlying25 open25
theorem openI : OpenV Try.prog 3 (fun n : Int => DI n) := OpenV.int Try.underlying3
theorem ownKn : ownKnob Try.prog.godebug = none := by kernel_rfl
theorem laidOut : laidOutB Try.prog = true := by kernel_rfl
end Go.Proofs.Ytdlnjnfkbneibaa

open Go.Vm
namespace Go.Proofs.Ytdlnjnfkbneibaa
open Go.ChangeShapes Go.WideShapes Go.ChangeAt Go.RowKit

theorem open3p : OpenAll Try.prog Try.f3.params.toList (fun x : Clip.Nt × Int × Unit => [dN x.1, DI x.2.1]) := by
  rw [Try.params3]
  exact OpenAll.cons openN (OpenAll.cons openI (OpenAll.nil))
set_option maxRecDepth 100000 in
theorem contract3 (H : Type) (enc : TypeId × Value → H) (W : World) (base : Nat) (args : Array Value) (ds gs : List (DataW H)) (before : List MemPlace)
    (hval : ∀ (j : Nat) t v, Try.f3.params[j]? = some t → args[j]? = some v → Value.okWide Try.prog W .any base t v)
    (hW : DataW.Whole enc Try.prog Try.f3.params.toList Rows.sightBoundsSpec.vars false W args.toList ds gs before) :
    Calls Try.prog 3 args W fun e W' => ∃ v, e = .returned v ∧ Rows.sightBoundsSpec.post enc Try.prog Try.f3 false true false false W args v W' := by
  refine contract_of_vc open3p (fun g => vc_SightBounds g.1 g.2.1 Hp.bare) laidOut ?_ (tb := 4) (by kernel_rfl) Try.underlying4 rfl ?_ hval hW
  · rw [Try.params3]
    intro t ht
    simp only [List.mem_cons, List.not_mem_nil, or_false] at ht
    rcases ht with rfl | rfl
    all_goals exact ⟨by kernel_rfl, of_decide_eq_true (by kernel_rfl)⟩
  · intro H dd hl
    rw [Try.params3] at hl
    match dd, hl with
    | [d0, d1], _ => rfl
set_option maxRecDepth 100000 in
theorem lifted3 (os : Os) (started : os.Started) (H : Type) (enc : TypeId × Value → H) :
    ReturnsInHanded {} Try.checked os 3 .any (Rows.sightBoundsSpec.pre6 enc Try.prog Try.f3 Rows.sightBoundsRow.domain false) (Rows.sightBoundsSpec.post enc Try.prog Try.f3 false true false false) := by
  refine returnsInHanded_of_change (C := Try.checked) ownKn started (by kernel_rfl) Try.func3
    (ChangeSpec.witness6 (enc := enc) (C := Try.checked) false ⟨#[], #[.agg #[.slice none 0 0, .slice none 0 0], .int .i64 0], []⟩ 8 (by kernel_rfl) (by kernel_rfl) (by kernel_rfl) (by kernel_rfl)) ?_
  intro W base args ds gs before hval hW _ _
  exact contract3 H enc W base args ds gs before hval hW
theorem sightBounds_said : Rows.SightBoundsSaid :=
  OpenClaim.holds_of_wide 3 Try.f3 rfl rfl rfl rfl rfl rfl rfl ⟨rfl, rfl, rfl, rfl, rfl⟩ rfl rfl rfl rfl rfl (by kernel_rfl) Try.func3 (by kernel_rfl)
    (of_decide_eq_true (by kernel_rfl)) (by unfold Func.isWrapper; first | (rw [if_pos (by decide +kernel)]; kernel_rfl) | (rw [if_neg (by decide +kernel)]; exact ⟨rfl, rfl⟩))
    (fun os started H enc _ => lifted3 os started H enc)
end Go.Proofs.Ytdlnjnfkbneibaa


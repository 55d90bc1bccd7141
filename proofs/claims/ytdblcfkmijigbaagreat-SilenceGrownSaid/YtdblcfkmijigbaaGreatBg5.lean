/- Part 5 of the proof that whose a field is that a river left is as the given statement says. No condition. -/
import Derived.Test.YtdblcfkmijigbaaGreatBg4
set_option linter.unusedVariables false
set_option linter.unusedSimpArgs false
open Go.Vm
open Riv
namespace Go.Proofs.YtdblcfkmijigbaaGreat
set_option maxRecDepth 20000
set_option maxHeartbeats 4000000

theorem vc_isl1 (x : Int) (h : Hp) : VC Tryz.prog 69 [I x] h (B (decide (x = 3))) h := by
  refine VC.body Tryz.func69 rfl Tryz.ntmps69 Tryz.call69 (h.grows_refl) rfl ?_; conv => whnf
  repeat' (first | ((first | refine zs1 ?_ | refine zs2 ?_ | refine zs3 ?_ | refine zs4 ?_ | refine zs5 ?_ | refine zs6 [] ?_); conv => whnf) | ((first | apply zi1 | apply zi2 | apply zi3 | apply zi4 | apply zi5) <;> intro _ <;> conv => whnf))
  refine VOut.same ?_
  have : (x == 3) = decide (x = 3) := by rw [Bool.eq_iff_iff, decide_eq_true_eq, beq_iff_eq]
  simp only [V.ren, this]
def vFolI (w hh : Int) (c : List Int) (mC fC : Vm.Id) : V := .func (.func 80) [] [.ptr mC 0, .fp [DI w, DI hh, dints c], .fp [.func (.func 69) [] []], .fp [dints c], .ptr fC 0]
structure MemI (w hh : Int) (c : List Int) (mC mI fC : Vm.Id) (M : List Nat) (h : Hp) : Prop where
  mc : h.get mC = some (.cells true [.gl mI 1 c.length])
  mi : h.get mI = some (.flat true ((metB c.length M).flatMap encB))
  fc : h.get fC = some (.cells true [vFolI w hh c mC fC])
structure DjtI (mC mI fC oI : Vm.Id) : Prop where
  cI : mC ≠ mI
  co : mC ≠ oI
  fI : fC ≠ mI
  fo : fC ≠ oI
  Io : mI ≠ oI
def effI (h : Hp) (mI oI : Vm.Id) (L : Nat) (R : List Nat) (l : List Int) : Hp := (h.sets [(mI, .flat true ((metB L R).flatMap encB)), (oI, .dead)]).pushes [.flat true (l.flatMap encI)]
theorem vc_folI {W H : Nat} (m : Mp) (o : MOk W H m.c) (hw : m.w = W) : ∀ (N n : Nat) (M : List Nat) (own : List Int) (mC mI fC oI : Vm.Id) (h : Hp), bat (marks m.c) n = true → n ∉ M → M.Nodup → (∀ x ∈ M, x < m.c.length) → m.c.length ≤ N + M.length → own.length ≤ M.length →
    MemI m.w m.h m.c mC mI fC M h → h.get oI = some (.flat true (own.flatMap encI)) → DjtI mC mI fC oI →
    VC Tryz.prog 80 [I n, .gl oI 1 own.length, .ptr mC 0, .fp (encM m), .fp [.func (.func 69) [] []], .fp [dints m.c], .ptr fC 0] h (.gl h.fresh 1 (ownF own M (folW (marks m.c) W N n M)).length) (effI h mI oI m.c.length (folW (marks m.c) W N n M) (ownF own M (folW (marks m.c) W N n M)))
  | 0, n, M, own, mC, mI, fC, oI, h, h1, h2, h3, h4, h5, h6, h7, h8, h9 => by
    have h10 := nodup_len m.c.length (M ++ [n]) (by
      rw [List.nodup_append]
      exact ⟨h3, by simp, fun a ha b hb => by simp at hb; subst hb; intro e; subst e; exact h2 ha⟩) fun x hx => by
      rcases List.mem_append.1 hx with hx | hx
      · exact h4 x hx
      · simp at hx; subst hx; have := bat_lt h1; rw [marks_len] at this; exact this
    rw [List.length_append, List.length_singleton] at h10
    omega
  | N + 1, n, M, own, mC, mI, fC, oI, h, h1, h2, h3, h4, h5, h6, h7, h8, h9 => by
    have IH := fun n M own mC mI fC oI h => vc_folI m o hw N n M own mC mI fC oI h
    have hWb := o.w
    have hHb := o.h
    have hL := o.len
    have hm144 := MOk.le o
    have cB := fun n h => vc_beside m n h
    have itB := fun n hn => iter_beside m W n (by omega) hw hn (by omega)
    have hmkl := marks_len m.c
    have hnl := bat_lt h1
    have hR : folW (marks m.c) W (N + 1) n M = folL (marks m.c) (folW (marks m.c) W N) (nbs W (marks m.c).length n) (M ++ [n]) := rfl
    rw [← folL_fold, ← nbF_all] at hR
    have hmi0 : MI (marks m.c).length (M ++ [n]) (M ++ [n]) := by
      refine ⟨List.prefix_refl _, ?_, fun x hx => ?_⟩
      · rw [List.nodup_append]
        exact ⟨h3, by simp, fun a ha b hb => by simp at hb; subst hb; intro e; subst e; exact h2 ha⟩
      · rcases List.mem_append.1 hx with hx | hx
        · rw [hmkl]; exact h4 x hx
        · simp at hx; subst hx; exact hnl
    have hMI := fun j hj => nbM_ok (mk := (marks m.c)) (N := N) (n := n) (W := W) (H := H) (by omega) (by rw [hmkl]; exact hL) hmi0 (by rw [List.length_append, List.length_singleton, hmkl]; omega) j hj
    have hMl : (M ++ [n]).length = M.length + 1 := by simp
    have hfo : ∀ k M, bat (marks m.c) k = true → k ∉ M → M.Nodup → (∀ x ∈ M, x < (marks m.c).length) → (marks m.c).length ≤ N + M.length → M <+: folW (marks m.c) W N k M := fun k M a1 a2 a3 a4 a5 => (folW_mi (by omega) (by rw [hmkl]; exact hL) a1 a2 a3 a4 a5).1.pre
    have hpre0 : M <+: M ++ [n] := List.prefix_append _ _
    obtain ⟨R, hRe⟩ : ∃ R, R = folW (marks m.c) W (N + 1) n M := ⟨_, rfl⟩
    rw [← hRe] at hR ⊢
    clear hRe
    have hset := metB_set (L := m.c.length) M (n := n) (by omega)
    have hmat := metB_at (L := m.c.length) (k := n) M (by omega)
    have hown1 := ownF_one own M n
    have hgrow : h.grows (effI h mI oI m.c.length R (ownF own M R)) := by
      refine Hp.grows_sets fun e he => ?_
      simp only [List.mem_cons, List.not_mem_nil, or_false] at he
      rcases he with rfl | rfl <;> simp only
      · rw [h7.mi]; simp
      · rw [h8]; simp
    obtain ⟨mw, mh, c⟩ := m
    dsimp only at *
    subst hw
    show VC Tryz.prog 80 [I n, .gl oI 1 own.length, .ptr mC 0, .fp [DI W, DI mh, dints c], .fp [.func (.func 69) [] []], .fp [dints c], .ptr fC 0] h _ _
    refine VC.bodyC 3 Tryz.func80 rfl Tryz.ntmps80 Tryz.call80 hgrow rfl ?_
    conv => whnf
    have hno : ∀ (i : Vm.Id) (j : Nat), Vm.Id.out i ≠ .loc j := fun _ _ e => by cases e
    have hMle := hmi0.len.2
    repeat' (first | ((first | refine zs1 ?_ | refine zs2 ?_ | refine zs3 ?_ | refine zs4 ?_ | refine zs5 ?_); conv => whnf) | ((first | apply zi1 | apply zi2 | apply zi3 | apply zi4 | apply zi5) <;> intro _ <;> conv => whnf) | (refine VLd.cell rfl rfl (get_out h7.mc _) rfl ?_; conv => whnf))
    refine VMem.setRec encB_len n 0 true rfl rfl (get_out h7.mi _) hmat (by decide) rfl (ofs _) ?_
    rw [hset]
    conv => whnf
    repeat' (first | ((first | refine zs1 ?_ | refine zs2 ?_ | refine zs3 ?_ | refine zs4 ?_ | refine zs5 ?_); conv => whnf) | ((first | apply zi1 | apply zi2 | apply zi3 | apply zi4 | apply zi5) <;> intro _ <;> conv => whnf))
    refine VMem.app1B (α := Int) (l := own) (n : Int) encI_len rfl (get_outNe (fun e => h9.Io e.symm) (get_out h8 _)) rfl rfl rfl (by omega) ?_
    rw [← hown1]
    conv => whnf
    repeat' (first | ((first | refine zs1 ?_ | refine zs2 ?_ | refine zs3 ?_ | refine zs4 ?_ | refine zs5 ?_); conv => whnf) | ((first | apply zi1 | apply zi2 | apply zi3 | apply zi4 | apply zi5) <;> intro _ <;> conv => whnf))
    have hol : own.length + 1 = (ownF own M (M ++ [n])).length := by rw [hown1, List.length_append, List.length_singleton]
    refine VCut.atO (outer := oF h.lift mI oI c.length (M ++ [n])) (marks := []) 99 [(0, I n), (2, .ptr (.out mC) 0), (3, .fp [DI W, DI mh, dints c]), (4, .fp [.func (.func 69) [] []]), (5, .fp [dints c]), (6, .ptr (.out fC) 0), (8, .ptr (.loc 0) 0)] [.cells true [.gl (.loc 1) 1 (own.length + 1)], .flat true ((ownF own M (M ++ [n])).flatMap encI)] rfl ?_ ?_
    · generalize ownF own M (M ++ [n]) = o1
      conv => whnf
      refine Retell.turn ⟨[0, 2], 3, [], []⟩ (TurnOk.mk' _ _ [] [] OutOk.oF rfl (by decide) zb trivial trivial rfl) zw zm
    · conv => whnf
      repeat' (first | ((first | refine zs1 ?_ | refine zs2 ?_ | refine zs3 ?_ | refine zs4 ?_ | refine zs5 ?_); conv => whnf) | ((first | apply zi1 | apply zi2 | apply zi3 | apply zi4 | apply zi5) <;> intro _ <;> conv => whnf) | (refine VCall.intro (cB n _) ?_; conv => whnf))
      refine VCode.tell [(2, .ptr (.out mC) 0), (4, .fp [.func (.func 69) [] []]), (5, .fp [dints c]), (6, .ptr (.out fC) 0), (8, .ptr (.loc 0) 0), (20, vBes ⟨W, mh, c⟩ n)] [.cells true [.gl (.loc 1) 1 (own.length + 1)], .flat true ((ownF own M (M ++ [n])).flatMap encI)] (marks' := []) ?_ ?_
      · generalize ownF own M (M ++ [n]) = o1
        conv => whnf
        refine Retell.turn ⟨[0, 1], 2, [], []⟩ (TurnOk.mk' _ _ [] [] OutOk.oF rfl (by decide) zb trivial trivial rfl) zw zm
      · conv => whnf
        refine VCode.iterS 4 (nbY W c.length n) (fun j g => GJ (oF h.lift mI oI c.length (nbF (folS (marks c) (folW (marks c) W N)) W (marks c).length n (M ++ [n]) j)) (ownF own M (nbF (folS (marks c) (folW (marks c) W N)) W (marks c).length n (M ++ [n]) j)) g) _ (.loc 3) rfl (itB n (by omega)) rfl rfl ⟨rfl, ⟨1, .inl rfl, by rw [nbF_zero, ← hol]; rfl, rfl⟩, rfl⟩ ?_ ?_ ?_
        · rintro j g hj hy hJ
          rw [nbF_none (by rw [hmkl]; exact nbY_none hy)]; exact hJ
        · rintro j g vs hj hy hJ hlp
          obtain ⟨q, hq, rfl⟩ := nbY_some hy
          have hqc : q < c.length := by
            have := ((nbs_iff (by omega) hL (by omega)).1 (nbO_mem hj hq)).1
            exact this
          rw [← hmkl] at hq
          rw [nbF_some hq]
          have hI := hMI j (by omega)
          generalize nbF (folS (marks c) (folW (marks c) W N)) W (marks c).length n (M ++ [n]) j = Mk at hJ hI
          have hpreM : M <+: Mk := hpre0.trans hI.pre
          have hlenM := hI.len
          have hlown := ownF_len own hpreM.length_le
          have hpp := fun S (hS : Mk <+: S) => ownF_ownF own hpreM hS
          obtain ⟨jo, ⟨m, hm, j0, jm⟩, j2⟩ := hJ
          obtain ⟨l, hl0⟩ : ∃ l, l = ownF own M Mk := ⟨_, rfl⟩
          rw [← hl0] at j0 jm hlown
          simp only [← hl0] at hpp
          have kmc : g.get (.out mC) = some ((Blk.cells true [.gl mI 1 c.length]).ren .out) := by
            show g.outer mC = _
            rw [jo]; exact oF_oth h9.cI h9.co [] (get_out h7.mc [])
          have kfc : g.get (.out fC) = some ((Blk.cells true [vFolI W mh c mC fC]).ren .out) := by
            show g.outer fC = _
            rw [jo]; exact oF_oth h9.fI h9.fo [] (get_out h7.fc [])
          have kmi : g.get (.out mI) = some (.flat true ((metB c.length Mk).flatMap encB)) := by
            show g.outer mI = _
            rw [jo]; exact oF_met h9.Io []
          have hqm := metB_at Mk hqc
          have hx := at0_get hqc
          have cSq := fun h => vc_isl1 (at0 c q) h
          rw [← bat_marks] at cSq
          unfold folS
          have hm0 : Vm.Id.loc m ≠ .loc 0 := by intro h0; injection h0; omega
          have hm3 : Vm.Id.loc m ≠ .loc 3 := by intro h0; injection h0; omega
          by_cases hgo : q ∉ Mk ∧ bat (marks c) q = true
          · rw [if_pos hgo]
            rw [decide_eq_false hgo.1] at hqm
            rw [hgo.2] at cSq
            have hfp := hfo q Mk hgo.2 hgo.1 hI.nd hI.lt (by omega)
            have IHq := fun H hM hb => IH q Mk l (.out (.out mC)) (.out (.out mI)) (.out (.out fC)) (.out (.loc m)) H hgo.2 hgo.1 hI.nd (fun x hx => by have := hI.lt x hx; omega) (by omega) (by omega) hM hb ⟨fun e => h9.cI (by injection e with e; injection e), (fun e => by injection e with e; cases e), fun e => h9.fI (by injection e with e; injection e), (fun e => by injection e with e; cases e), (fun e => by injection e with e; cases e)⟩
            have hown2 := hpp _ hfp
            have hfl := hfp.length_le
            have hl2 := ownF_len l hfl
            generalize folW (marks c) W N q Mk = S at IHq hown2 hfl hl2
            rw [← hown2]
            generalize ownF l Mk S = l' at IHq hl2
            obtain ⟨s1, s2, s3⟩ := FJ.step (R := S) (l' := l') h9.Io jo j0 jm j2 hm hlp
            refine ⟨_, ?_, s2, s3⟩
            refine VRound.vy' hlp rfl rfl rfl s1 fun l0 => ?_
            refine VRound.tell [(2, .ptr (.out (.out mC)) 0), (4, .fp [.func (.func 69) [] []]), (5, .fp [dints c]), (6, .ptr (.out (.out fC)) 0), (8, .ptr (.out (.loc 0)) 0), (21, I q)] ?_ ?_
            · conv => whnf
              refine Retell.turn ⟨[], 0, [], []⟩ (TurnOk.mk' _ _ [] [] (OutOk.lift _) rfl (by decide) zb trivial trivial rfl) zw zm
            · conv => whnf
              repeat (first | ((first | refine zs1 ?_ | refine zs2 ?_ | refine zs3 ?_ | refine zs4 ?_ | refine zs5 ?_ | refine zs6 [] ?_); conv => whnf))
              refine VBegin.intro (get_out hlp _) rfl ?_
              conv => whnf
              refine zs6 [] ?_
              conv => whnf
              repeat' (first | ((first | refine zs1 ?_ | refine zs2 ?_ | refine zs3 ?_ | refine zs4 ?_ | refine zs5 ?_); conv => whnf) | ((first | apply zi1 | apply zi2 | apply zi3 | apply zi4 | apply zi5) <;> intro _ <;> conv => whnf) | (refine VLd.cell rfl rfl (get_setO (hno _ _) kmc _) rfl ?_; conv => whnf) | (refine VLd.recc encB_len q 0 rfl rfl (get_setO (hno _ _) kmi _) hqm (by decide) rfl (ofs _) ?_; conv => whnf) | (refine VAny.ix encI_len q rfl rfl hx ?_; conv => whnf) | (refine VCall.intro (cSq _) ?_; conv => whnf))
              repeat' (first | ((first | refine zs1 ?_ | refine zs2 ?_ | refine zs3 ?_ | refine zs4 ?_ | refine zs5 ?_); conv => whnf) | ((first | apply zi1 | apply zi2 | apply zi3 | apply zi4 | apply zi5) <;> intro _ <;> conv => whnf) | (refine VLd.cell rfl rfl (get_setO (hno _ _) kfc _) rfl ?_; conv => whnf) | (refine VLd.cell rfl rfl (get_setO (by decide) j0 _) rfl ?_; conv => whnf))
              refine VCall.intro (IHq _ ⟨get_setO (hno _ _) kmc _, get_setO (hno _ _) kmi _, get_setO (hno _ _) kfc _⟩ (get_setO hm3 jm _)) ?_
              conv => whnf
              repeat' (first | ((first | refine zs1 ?_ | refine zs2 ?_ | refine zs3 ?_ | refine zs4 ?_ | refine zs5 ?_); conv => whnf) | ((first | apply zi1 | apply zi2 | apply zi3 | apply zi4 | apply zi5) <;> intro _ <;> conv => whnf))
              refine VMem.st1 rfl rfl rfl (b := .cells true [.gl (.out (.loc m)) 1 l.length]) (get_outNe (fun e => hm0 e.symm) (get_outNe (fun e => by cases e) (get_setO (by decide) j0 _))) rfl ?_
              conv => whnf
              repeat' (first | ((first | refine zs1 ?_ | refine zs2 ?_ | refine zs3 ?_ | refine zs4 ?_ | refine zs5 ?_); conv => whnf) | ((first | apply zi1 | apply zi2 | apply zi3 | apply zi4 | apply zi5) <;> intro _ <;> conv => whnf))
              refine RFin.on (get_outNe (by decide) (get_outNe (fun e => hm3 e.symm) (get_outNe (fun e => by cases e) (outW_get _ _ _ _)))) ?_
              refine VOut.upd (upF mI c.length S m (.cells true [.gl g.fresh 1 l'.length])) [.flat true (l'.flatMap encI)] [0] 1 ?_ (upF_ok kmi jm j0) ?_ ?_ ?_ ?_ ?_
              · rfl
              · decide
              · rfl
              · intro k' b' hk'
                cases k' with
                | zero => rw [List.getElem?_cons_zero, Option.some.injEq] at hk'; subst hk'; exact ⟨0, rfl, rfl⟩
                | succ k' => simp at hk'
              · intro σ x hx; exact hx
              · have e1 : (Blk.cells true [V.gl g.fresh 1 l'.length]).ren (backR g.loc.length [0] 1) = .cells true [.gl (.loc 0) 1 l'.length] := by simp [Blk.ren, V.ren, backR, Hp.fresh]
                simp only [upF, List.map_cons, List.map_nil, e1]
                exact outer_fix3 (get_out hlp []) (fun e => by cases e) (fun e => hm3 e.symm) (by decide)
          · rw [if_neg hgo, ← hl0]
            refine ⟨g, ?_, ⟨jo, ⟨m, hm, j0, jm⟩, j2⟩, hlp⟩
            have hgo2 : q ∈ Mk ∨ bat (marks c) q = false := by
              by_cases hqM : q ∈ Mk
              · exact .inl hqM
              · right
                cases hb : bat (marks c) q with
                | false => rfl
                | true => exact absurd ⟨hqM, hb⟩ hgo
            rcases hgo2 with hb | hb
            all_goals (
              first | rw [decide_eq_true hb] at hqm | rw [hb] at cSq
              refine VRound.vy' hlp rfl rfl rfl g.grows_refl fun l0 => ?_
              refine VRound.tell [(2, .ptr (.out (.out mC)) 0), (4, .fp [.func (.func 69) [] []]), (5, .fp [dints c]), (21, I q)] ?_ ?_
              · conv => whnf
                refine Retell.turn ⟨[], 0, [], []⟩ (TurnOk.mk' _ _ [] [] (OutOk.lift _) rfl (by decide) zb trivial trivial rfl) zw zm
              · conv => whnf
                repeat (first | ((first | refine zs1 ?_ | refine zs2 ?_ | refine zs3 ?_ | refine zs4 ?_ | refine zs5 ?_ | refine zs6 [] ?_); conv => whnf))
                refine VBegin.intro (get_out hlp _) rfl ?_
                conv => whnf
                refine zs6 [] ?_
                conv => whnf
                repeat' (first | ((first | refine zs1 ?_ | refine zs2 ?_ | refine zs3 ?_ | refine zs4 ?_ | refine zs5 ?_); conv => whnf) | ((first | apply zi1 | apply zi2 | apply zi3 | apply zi4 | apply zi5) <;> intro _ <;> conv => whnf) | (refine VLd.cell rfl rfl (get_setO (hno _ _) kmc _) rfl ?_; conv => whnf) | (refine VLd.recc encB_len q 0 rfl rfl (get_setO (hno _ _) kmi _) hqm (by decide) rfl (ofs _) ?_; conv => whnf) | (refine VAny.ix encI_len q rfl rfl hx ?_; conv => whnf) | (refine VCall.intro (cSq _) ?_; conv => whnf))
                all_goals first
                  | exact RFin.on (outW_get _ _ _ _) (VOut.back (get_out hlp []) rfl)
                  | contradiction
                  | skip)
        · rintro ⟨go, gl⟩ ⟨jo, ⟨m, hm, j0, jm⟩, j2⟩ hlp
          dsimp only at jo
          subst jo
          rw [← hR] at j0 jm ⊢
          have hlR : M.length ≤ R.length := by
            have := hMI 4 (by omega)
            rw [← hR] at this
            have := this.len
            omega
          have hol2 := ownF_len own hlR
          generalize ownF own M R = l at j0 jm hol2 hgrow ⊢
          have j0 : gl[0]? = some _ := j0
          have jm : gl[m]? = some _ := jm
          have j2 : gl[2]? = some _ := j2
          have l0 := (List.getElem?_eq_some_iff.1 j0).1
          have lm := (List.getElem?_eq_some_iff.1 jm).1
          have key : ∀ (x : Nat) (A : Blk), x ≠ 3 → (gl.set 3 A)[x]? = gl[x]? := fun x A hx => List.getElem?_set_ne (Ne.symm hx)
          have hmn : ([0, m] : List Nat).Nodup := by simp; omega
          have hm4 : 2 ∉ ([0, m] : List Nat) := by simp; omega
          refine Told.mk [(8, .ptr (.loc 0) 0)] [.cells true [.gl (.loc 1) 1 l.length], .flat true (l.flatMap encI)] (marks' := []) ?_ ?_
          · conv => whnf
            refine Retell.turn ⟨[0, m], gl.length, [], []⟩ (TurnOk.mk' _ _ [] [] OutOk.oF (Nat.ble_eq_true_of_le (by simp)) hmn (BTos.cells (blt_of l0) ((key 0 _ (by decide)).trans j0) rfl zw (BTos.flat (blt_of lm) ((key m _ (by omega)).trans jm) rfl BTos.nil)) trivial trivial rfl) zw (MkTo.drop hm4 ((key 2 _ (by decide)).trans j2) MkTo.nil)
          · conv => whnf
            repeat' (first | ((first | refine zs1 ?_ | refine zs2 ?_ | refine zs3 ?_ | refine zs4 ?_ | refine zs5 ?_); conv => whnf) | ((first | apply zi1 | apply zi2 | apply zi3 | apply zi4 | apply zi5) <;> intro _ <;> conv => whnf))
            refine VOut.upd [(mI, .flat true ((metB c.length R).flatMap encB)), (oI, .dead)] [.flat true (l.flatMap encI)] [1] 2 ?_ ?_ ?_ ?_ ?_ ?_ ?_
            · rfl
            · intro e he
              simp only [List.mem_cons, List.not_mem_nil, or_false] at he
              rcases he with rfl | rfl <;> simp only
              · rw [h7.mi]; simp
              · rw [h8]; simp
            · decide
            · rfl
            · intro k' b' hk'
              cases k' with
              | zero => rw [List.getElem?_cons_zero, Option.some.injEq] at hk'; subst hk'; exact ⟨1, rfl, rfl⟩
              | succ k' => simp at hk'
            · intro σ x hx
              have : (V.gl h.fresh 1 l.length).ren (backR h.loc.length [1] 2) = .gl (.loc 1) 1 l.length := by simp [V.ren, backR, Hp.fresh]
              rw [this]; exact hx
            · rfl
end Go.Proofs.YtdblcfkmijigbaaGreat

open Go.Vm
open Riv
namespace Go.Proofs.YtdblcfkmijigbaaGreat
set_option maxRecDepth 20000
set_option maxHeartbeats 4000000

theorem vc_chg1 (b : Bool) (h : Hp) : VC Tryz.prog 77 [B b] h (B b) h := by
  refine VC.body Tryz.func77 rfl Tryz.ntmps77 Tryz.call77 (h.grows_refl) rfl ?_; conv => whnf
  repeat' (first | ((first | refine zs1 ?_ | refine zs2 ?_ | refine zs3 ?_ | refine zs4 ?_ | refine zs5 ?_ | refine zs6 [] ?_); conv => whnf) | ((first | apply zi1 | apply zi2 | apply zi3 | apply zi4 | apply zi5) <;> intro _ <;> conv => whnf))
  exact VOut.same rfl
theorem bat_get {mk : List Bool} {q : Nat} (h : q < mk.length) : mk[q]? = some (bat mk q) := by
  unfold bat; rw [List.getD_eq_getElem?_getD, List.getElem?_eq_getElem h]; rfl
def vFolB (w hh : Int) (c : List Int) (mk : List Bool) (mC fC : Vm.Id) : V := .func (.func 82) [] [.ptr mC 0, .fp [DI w, DI hh, dints c], .fp [.func (.func 77) [] []], .fp [dbools mk], .ptr fC 0]
structure MemB (w hh : Int) (c : List Int) (mk : List Bool) (mC mI fC : Vm.Id) (M : List Nat) (h : Hp) : Prop where
  mc : h.get mC = some (.cells true [.gl mI 1 mk.length])
  mi : h.get mI = some (.flat true ((metB mk.length M).flatMap encB))
  fc : h.get fC = some (.cells true [vFolB w hh c mk mC fC])
structure DjtB (mC mI fC oI : Vm.Id) : Prop where
  cI : mC ≠ mI
  co : mC ≠ oI
  fI : fC ≠ mI
  fo : fC ≠ oI
  Io : mI ≠ oI
def effB (h : Hp) (mI oI : Vm.Id) (L : Nat) (R : List Nat) (l : List Int) : Hp := (h.sets [(mI, .flat true ((metB L R).flatMap encB)), (oI, .dead)]).pushes [.flat true (l.flatMap encI)]
theorem vc_folB {W H : Nat} (m : Mp) (mk : List Bool) (o : MOk W H m.c) (hw : m.w = W) (hmk : mk.length = m.c.length) : ∀ (N n : Nat) (M : List Nat) (own : List Int) (mC mI fC oI : Vm.Id) (h : Hp), bat mk n = true → n ∉ M → M.Nodup → (∀ x ∈ M, x < m.c.length) → m.c.length ≤ N + M.length → own.length ≤ M.length →
    MemB m.w m.h m.c mk mC mI fC M h → h.get oI = some (.flat true (own.flatMap encI)) → DjtB mC mI fC oI →
    VC Tryz.prog 82 [I n, .gl oI 1 own.length, .ptr mC 0, .fp (encM m), .fp [.func (.func 77) [] []], .fp [dbools mk], .ptr fC 0] h (.gl h.fresh 1 (ownF own M (folW mk W N n M)).length) (effB h mI oI mk.length (folW mk W N n M) (ownF own M (folW mk W N n M)))
  | 0, n, M, own, mC, mI, fC, oI, h, h1, h2, h3, h4, h5, h6, h7, h8, h9 => by
    have h10 := nodup_len m.c.length (M ++ [n]) (by
      rw [List.nodup_append]
      exact ⟨h3, by simp, fun a ha b hb => by simp at hb; subst hb; intro e; subst e; exact h2 ha⟩) fun x hx => by
      rcases List.mem_append.1 hx with hx | hx
      · exact h4 x hx
      · simp at hx; subst hx; have := bat_lt h1; omega
    rw [List.length_append, List.length_singleton] at h10
    omega
  | N + 1, n, M, own, mC, mI, fC, oI, h, h1, h2, h3, h4, h5, h6, h7, h8, h9 => by
    have IH := fun n M own mC mI fC oI h => vc_folB m mk o hw hmk N n M own mC mI fC oI h
    have hWb := o.w
    have hHb := o.h
    have hL := o.len
    have hm144 := MOk.le o
    have cB := fun n h => vc_beside m n h
    have itB := fun n hn => iter_beside m W n (by omega) hw hn (by omega)
    have hnl := bat_lt h1
    have hR : folW mk W (N + 1) n M = folL mk (folW mk W N) (nbs W mk.length n) (M ++ [n]) := rfl
    rw [← folL_fold, ← nbF_all] at hR
    have hmi0 : MI mk.length (M ++ [n]) (M ++ [n]) := by
      refine ⟨List.prefix_refl _, ?_, fun x hx => ?_⟩
      · rw [List.nodup_append]
        exact ⟨h3, by simp, fun a ha b hb => by simp at hb; subst hb; intro e; subst e; exact h2 ha⟩
      · rcases List.mem_append.1 hx with hx | hx
        · rw [hmk]; exact h4 x hx
        · simp at hx; subst hx; exact hnl
    have hMI := fun j hj => nbM_ok (mk := mk) (N := N) (n := n) (W := W) (H := H) (by omega) (by rw [hmk]; exact hL) hmi0 (by rw [List.length_append, List.length_singleton, hmk]; omega) j hj
    have hMl : (M ++ [n]).length = M.length + 1 := by simp
    have hfo : ∀ k M, bat mk k = true → k ∉ M → M.Nodup → (∀ x ∈ M, x < mk.length) → mk.length ≤ N + M.length → M <+: folW mk W N k M := fun k M a1 a2 a3 a4 a5 => (folW_mi (by omega) (by rw [hmk]; exact hL) a1 a2 a3 a4 a5).1.pre
    have hpre0 : M <+: M ++ [n] := List.prefix_append _ _
    obtain ⟨R, hRe⟩ : ∃ R, R = folW mk W (N + 1) n M := ⟨_, rfl⟩
    rw [← hRe] at hR ⊢
    clear hRe
    have hset := metB_set (L := mk.length) M (n := n) (by exact hnl)
    have hmat := metB_at (L := mk.length) (k := n) M (by exact hnl)
    have hown1 := ownF_one own M n
    have hgrow : h.grows (effB h mI oI mk.length R (ownF own M R)) := by
      refine Hp.grows_sets fun e he => ?_
      simp only [List.mem_cons, List.not_mem_nil, or_false] at he
      rcases he with rfl | rfl <;> simp only
      · rw [h7.mi]; simp
      · rw [h8]; simp
    obtain ⟨mw, mh, c⟩ := m
    dsimp only at *
    subst hw
    show VC Tryz.prog 82 [I n, .gl oI 1 own.length, .ptr mC 0, .fp [DI W, DI mh, dints c], .fp [.func (.func 77) [] []], .fp [dbools mk], .ptr fC 0] h _ _
    refine VC.bodyC 3 Tryz.func82 rfl Tryz.ntmps82 Tryz.call82 hgrow rfl ?_
    conv => whnf
    have hno : ∀ (i : Vm.Id) (j : Nat), Vm.Id.out i ≠ .loc j := fun _ _ e => by cases e
    have hMle := hmi0.len.2
    repeat' (first | ((first | refine zs1 ?_ | refine zs2 ?_ | refine zs3 ?_ | refine zs4 ?_ | refine zs5 ?_); conv => whnf) | ((first | apply zi1 | apply zi2 | apply zi3 | apply zi4 | apply zi5) <;> intro _ <;> conv => whnf) | (refine VLd.cell rfl rfl (get_out h7.mc _) rfl ?_; conv => whnf))
    refine VMem.setRec encB_len n 0 true rfl rfl (get_out h7.mi _) hmat (by decide) rfl (ofs _) ?_
    rw [hset]
    conv => whnf
    repeat' (first | ((first | refine zs1 ?_ | refine zs2 ?_ | refine zs3 ?_ | refine zs4 ?_ | refine zs5 ?_); conv => whnf) | ((first | apply zi1 | apply zi2 | apply zi3 | apply zi4 | apply zi5) <;> intro _ <;> conv => whnf))
    refine VMem.app1B (α := Int) (l := own) (n : Int) encI_len rfl (get_outNe (fun e => h9.Io e.symm) (get_out h8 _)) rfl rfl rfl (by omega) ?_
    rw [← hown1]
    conv => whnf
    repeat' (first | ((first | refine zs1 ?_ | refine zs2 ?_ | refine zs3 ?_ | refine zs4 ?_ | refine zs5 ?_); conv => whnf) | ((first | apply zi1 | apply zi2 | apply zi3 | apply zi4 | apply zi5) <;> intro _ <;> conv => whnf))
    have hol : own.length + 1 = (ownF own M (M ++ [n])).length := by rw [hown1, List.length_append, List.length_singleton]
    refine VCut.atO (outer := oF h.lift mI oI mk.length (M ++ [n])) (marks := []) 99 [(0, I n), (2, .ptr (.out mC) 0), (3, .fp [DI W, DI mh, dints c]), (4, .fp [.func (.func 77) [] []]), (5, .fp [dbools mk]), (6, .ptr (.out fC) 0), (8, .ptr (.loc 0) 0)] [.cells true [.gl (.loc 1) 1 (own.length + 1)], .flat true ((ownF own M (M ++ [n])).flatMap encI)] rfl ?_ ?_
    · generalize ownF own M (M ++ [n]) = o1
      conv => whnf
      refine Retell.turn ⟨[0, 2], 3, [], []⟩ (TurnOk.mk' _ _ [] [] OutOk.oF rfl (by decide) zb trivial trivial rfl) zw zm
    · conv => whnf
      repeat' (first | ((first | refine zs1 ?_ | refine zs2 ?_ | refine zs3 ?_ | refine zs4 ?_ | refine zs5 ?_); conv => whnf) | ((first | apply zi1 | apply zi2 | apply zi3 | apply zi4 | apply zi5) <;> intro _ <;> conv => whnf) | (refine VCall.intro (cB n _) ?_; conv => whnf))
      refine VCode.tell [(2, .ptr (.out mC) 0), (4, .fp [.func (.func 77) [] []]), (5, .fp [dbools mk]), (6, .ptr (.out fC) 0), (8, .ptr (.loc 0) 0), (20, vBes ⟨W, mh, c⟩ n)] [.cells true [.gl (.loc 1) 1 (own.length + 1)], .flat true ((ownF own M (M ++ [n])).flatMap encI)] (marks' := []) ?_ ?_
      · generalize ownF own M (M ++ [n]) = o1
        conv => whnf
        refine Retell.turn ⟨[0, 1], 2, [], []⟩ (TurnOk.mk' _ _ [] [] OutOk.oF rfl (by decide) zb trivial trivial rfl) zw zm
      · conv => whnf
        refine VCode.iterS 4 (nbY W c.length n) (fun j g => GJ (oF h.lift mI oI mk.length (nbF (folS mk (folW mk W N)) W mk.length n (M ++ [n]) j)) (ownF own M (nbF (folS mk (folW mk W N)) W mk.length n (M ++ [n]) j)) g) _ (.loc 3) rfl (itB n (by omega)) rfl rfl ⟨rfl, ⟨1, .inl rfl, by rw [nbF_zero, ← hol]; rfl, rfl⟩, rfl⟩ ?_ ?_ ?_
        · rintro j g hj hy hJ
          rw [nbF_none (by rw [hmk]; exact nbY_none hy)]; exact hJ
        · rintro j g vs hj hy hJ hlp
          obtain ⟨q, hq, rfl⟩ := nbY_some hy
          have hqc : q < mk.length := by
            have := ((nbs_iff (by omega) hL (by omega)).1 (nbO_mem hj hq)).1
            omega
          rw [← hmk] at hq
          rw [nbF_some hq]
          have hI := hMI j (by omega)
          generalize nbF (folS mk (folW mk W N)) W mk.length n (M ++ [n]) j = Mk at hJ hI
          have hpreM : M <+: Mk := hpre0.trans hI.pre
          have hlenM := hI.len
          have hlown := ownF_len own hpreM.length_le
          have hpp := fun S (hS : Mk <+: S) => ownF_ownF own hpreM hS
          obtain ⟨jo, ⟨m, hm, j0, jm⟩, j2⟩ := hJ
          obtain ⟨l, hl0⟩ : ∃ l, l = ownF own M Mk := ⟨_, rfl⟩
          rw [← hl0] at j0 jm hlown
          simp only [← hl0] at hpp
          have kmc : g.get (.out mC) = some ((Blk.cells true [.gl mI 1 mk.length]).ren .out) := by
            show g.outer mC = _
            rw [jo]; exact oF_oth h9.cI h9.co [] (get_out h7.mc [])
          have kfc : g.get (.out fC) = some ((Blk.cells true [vFolB W mh c mk mC fC]).ren .out) := by
            show g.outer fC = _
            rw [jo]; exact oF_oth h9.fI h9.fo [] (get_out h7.fc [])
          have kmi : g.get (.out mI) = some (.flat true ((metB mk.length Mk).flatMap encB)) := by
            show g.outer mI = _
            rw [jo]; exact oF_met h9.Io []
          have hqm := metB_at Mk hqc
          have hx := bat_get hqc
          have cSq := fun h => vc_chg1 (bat mk q) h
          unfold folS
          have hm0 : Vm.Id.loc m ≠ .loc 0 := by intro h0; injection h0; omega
          have hm3 : Vm.Id.loc m ≠ .loc 3 := by intro h0; injection h0; omega
          by_cases hgo : q ∉ Mk ∧ bat mk q = true
          · rw [if_pos hgo]
            rw [decide_eq_false hgo.1] at hqm
            rw [hgo.2] at hx cSq
            have hfp := hfo q Mk hgo.2 hgo.1 hI.nd hI.lt (by omega)
            have IHq := fun H hM hb => IH q Mk l (.out (.out mC)) (.out (.out mI)) (.out (.out fC)) (.out (.loc m)) H hgo.2 hgo.1 hI.nd (fun x hx => by have := hI.lt x hx; omega) (by omega) (by omega) hM hb ⟨fun e => h9.cI (by injection e with e; injection e), (fun e => by injection e with e; cases e), fun e => h9.fI (by injection e with e; injection e), (fun e => by injection e with e; cases e), (fun e => by injection e with e; cases e)⟩
            have hown2 := hpp _ hfp
            have hfl := hfp.length_le
            have hl2 := ownF_len l hfl
            generalize folW mk W N q Mk = S at IHq hown2 hfl hl2
            rw [← hown2]
            generalize ownF l Mk S = l' at IHq hl2
            obtain ⟨s1, s2, s3⟩ := FJ.step (R := S) (l' := l') h9.Io jo j0 jm j2 hm hlp
            refine ⟨_, ?_, s2, s3⟩
            refine VRound.vy' hlp rfl rfl rfl s1 fun l0 => ?_
            refine VRound.tell [(2, .ptr (.out (.out mC)) 0), (4, .fp [.func (.func 77) [] []]), (5, .fp [dbools mk]), (6, .ptr (.out (.out fC)) 0), (8, .ptr (.out (.loc 0)) 0), (21, I q)] ?_ ?_
            · conv => whnf
              refine Retell.turn ⟨[], 0, [], []⟩ (TurnOk.mk' _ _ [] [] (OutOk.lift _) rfl (by decide) zb trivial trivial rfl) zw zm
            · conv => whnf
              repeat (first | ((first | refine zs1 ?_ | refine zs2 ?_ | refine zs3 ?_ | refine zs4 ?_ | refine zs5 ?_ | refine zs6 [] ?_); conv => whnf))
              refine VBegin.intro (get_out hlp _) rfl ?_
              conv => whnf
              refine zs6 [] ?_
              conv => whnf
              repeat' (first | ((first | refine zs1 ?_ | refine zs2 ?_ | refine zs3 ?_ | refine zs4 ?_ | refine zs5 ?_); conv => whnf) | ((first | apply zi1 | apply zi2 | apply zi3 | apply zi4 | apply zi5) <;> intro _ <;> conv => whnf) | (refine VLd.cell rfl rfl (get_setO (hno _ _) kmc _) rfl ?_; conv => whnf) | (refine VLd.recc encB_len q 0 rfl rfl (get_setO (hno _ _) kmi _) hqm (by decide) rfl (ofs _) ?_; conv => whnf) | (refine VAny.ix encB_len q rfl rfl hx ?_; conv => whnf) | (refine VCall.intro (cSq _) ?_; conv => whnf))
              repeat' (first | ((first | refine zs1 ?_ | refine zs2 ?_ | refine zs3 ?_ | refine zs4 ?_ | refine zs5 ?_); conv => whnf) | ((first | apply zi1 | apply zi2 | apply zi3 | apply zi4 | apply zi5) <;> intro _ <;> conv => whnf) | (refine VLd.cell rfl rfl (get_setO (hno _ _) kfc _) rfl ?_; conv => whnf) | (refine VLd.cell rfl rfl (get_setO (by decide) j0 _) rfl ?_; conv => whnf))
              refine VCall.intro (IHq _ ⟨get_setO (hno _ _) kmc _, get_setO (hno _ _) kmi _, get_setO (hno _ _) kfc _⟩ (get_setO hm3 jm _)) ?_
              conv => whnf
              repeat' (first | ((first | refine zs1 ?_ | refine zs2 ?_ | refine zs3 ?_ | refine zs4 ?_ | refine zs5 ?_); conv => whnf) | ((first | apply zi1 | apply zi2 | apply zi3 | apply zi4 | apply zi5) <;> intro _ <;> conv => whnf))
              refine VMem.st1 rfl rfl rfl (b := .cells true [.gl (.out (.loc m)) 1 l.length]) (get_outNe (fun e => hm0 e.symm) (get_outNe (fun e => by cases e) (get_setO (by decide) j0 _))) rfl ?_
              conv => whnf
              repeat' (first | ((first | refine zs1 ?_ | refine zs2 ?_ | refine zs3 ?_ | refine zs4 ?_ | refine zs5 ?_); conv => whnf) | ((first | apply zi1 | apply zi2 | apply zi3 | apply zi4 | apply zi5) <;> intro _ <;> conv => whnf))
              refine RFin.on (get_outNe (by decide) (get_outNe (fun e => hm3 e.symm) (get_outNe (fun e => by cases e) (outW_get _ _ _ _)))) ?_
              refine VOut.upd (upF mI mk.length S m (.cells true [.gl g.fresh 1 l'.length])) [.flat true (l'.flatMap encI)] [0] 1 ?_ (upF_ok kmi jm j0) ?_ ?_ ?_ ?_ ?_
              · rfl
              · decide
              · rfl
              · intro k' b' hk'
                cases k' with
                | zero => rw [List.getElem?_cons_zero, Option.some.injEq] at hk'; subst hk'; exact ⟨0, rfl, rfl⟩
                | succ k' => simp at hk'
              · intro σ x hx; exact hx
              · have e1 : (Blk.cells true [V.gl g.fresh 1 l'.length]).ren (backR g.loc.length [0] 1) = .cells true [.gl (.loc 0) 1 l'.length] := by simp [Blk.ren, V.ren, backR, Hp.fresh]
                simp only [upF, List.map_cons, List.map_nil, e1]
                exact outer_fix3 (get_out hlp []) (fun e => by cases e) (fun e => hm3 e.symm) (by decide)
          · rw [if_neg hgo, ← hl0]
            refine ⟨g, ?_, ⟨jo, ⟨m, hm, j0, jm⟩, j2⟩, hlp⟩
            have hgo2 : q ∈ Mk ∨ bat mk q = false := by
              by_cases hqM : q ∈ Mk
              · exact .inl hqM
              · right
                cases hb : bat mk q with
                | false => rfl
                | true => exact absurd ⟨hqM, hb⟩ hgo
            rcases hgo2 with hb | hb
            all_goals (
              first | rw [decide_eq_true hb] at hqm | rw [hb] at hx cSq
              refine VRound.vy' hlp rfl rfl rfl g.grows_refl fun l0 => ?_
              refine VRound.tell [(2, .ptr (.out (.out mC)) 0), (4, .fp [.func (.func 77) [] []]), (5, .fp [dbools mk]), (21, I q)] ?_ ?_
              · conv => whnf
                refine Retell.turn ⟨[], 0, [], []⟩ (TurnOk.mk' _ _ [] [] (OutOk.lift _) rfl (by decide) zb trivial trivial rfl) zw zm
              · conv => whnf
                repeat (first | ((first | refine zs1 ?_ | refine zs2 ?_ | refine zs3 ?_ | refine zs4 ?_ | refine zs5 ?_ | refine zs6 [] ?_); conv => whnf))
                refine VBegin.intro (get_out hlp _) rfl ?_
                conv => whnf
                refine zs6 [] ?_
                conv => whnf
                repeat' (first | ((first | refine zs1 ?_ | refine zs2 ?_ | refine zs3 ?_ | refine zs4 ?_ | refine zs5 ?_); conv => whnf) | ((first | apply zi1 | apply zi2 | apply zi3 | apply zi4 | apply zi5) <;> intro _ <;> conv => whnf) | (refine VLd.cell rfl rfl (get_setO (hno _ _) kmc _) rfl ?_; conv => whnf) | (refine VLd.recc encB_len q 0 rfl rfl (get_setO (hno _ _) kmi _) hqm (by decide) rfl (ofs _) ?_; conv => whnf) | (refine VAny.ix encB_len q rfl rfl hx ?_; conv => whnf) | (refine VCall.intro (cSq _) ?_; conv => whnf))
                all_goals first
                  | exact RFin.on (outW_get _ _ _ _) (VOut.back (get_out hlp []) rfl)
                  | contradiction
                  | skip)
        · rintro ⟨go, gl⟩ ⟨jo, ⟨m, hm, j0, jm⟩, j2⟩ hlp
          dsimp only at jo
          subst jo
          rw [← hR] at j0 jm ⊢
          have hlR : M.length ≤ R.length := by
            have := hMI 4 (by omega)
            rw [← hR] at this
            have := this.len
            omega
          have hol2 := ownF_len own hlR
          generalize ownF own M R = l at j0 jm hol2 hgrow ⊢
          have j0 : gl[0]? = some _ := j0
          have jm : gl[m]? = some _ := jm
          have j2 : gl[2]? = some _ := j2
          have l0 := (List.getElem?_eq_some_iff.1 j0).1
          have lm := (List.getElem?_eq_some_iff.1 jm).1
          have key : ∀ (x : Nat) (A : Blk), x ≠ 3 → (gl.set 3 A)[x]? = gl[x]? := fun x A hx => List.getElem?_set_ne (Ne.symm hx)
          have hmn : ([0, m] : List Nat).Nodup := by simp; omega
          have hm4 : 2 ∉ ([0, m] : List Nat) := by simp; omega
          refine Told.mk [(8, .ptr (.loc 0) 0)] [.cells true [.gl (.loc 1) 1 l.length], .flat true (l.flatMap encI)] (marks' := []) ?_ ?_
          · conv => whnf
            refine Retell.turn ⟨[0, m], gl.length, [], []⟩ (TurnOk.mk' _ _ [] [] OutOk.oF (Nat.ble_eq_true_of_le (by simp)) hmn (BTos.cells (blt_of l0) ((key 0 _ (by decide)).trans j0) rfl zw (BTos.flat (blt_of lm) ((key m _ (by omega)).trans jm) rfl BTos.nil)) trivial trivial rfl) zw (MkTo.drop hm4 ((key 2 _ (by decide)).trans j2) MkTo.nil)
          · conv => whnf
            repeat' (first | ((first | refine zs1 ?_ | refine zs2 ?_ | refine zs3 ?_ | refine zs4 ?_ | refine zs5 ?_); conv => whnf) | ((first | apply zi1 | apply zi2 | apply zi3 | apply zi4 | apply zi5) <;> intro _ <;> conv => whnf))
            refine VOut.upd [(mI, .flat true ((metB mk.length R).flatMap encB)), (oI, .dead)] [.flat true (l.flatMap encI)] [1] 2 ?_ ?_ ?_ ?_ ?_ ?_ ?_
            · rfl
            · intro e he
              simp only [List.mem_cons, List.not_mem_nil, or_false] at he
              rcases he with rfl | rfl <;> simp only
              · rw [h7.mi]; simp
              · rw [h8]; simp
            · decide
            · rfl
            · intro k' b' hk'
              cases k' with
              | zero => rw [List.getElem?_cons_zero, Option.some.injEq] at hk'; subst hk'; exact ⟨1, rfl, rfl⟩
              | succ k' => simp at hk'
            · intro σ x hx
              have : (V.gl h.fresh 1 l.length).ren (backR h.loc.length [1] 2) = .gl (.loc 1) 1 l.length := by simp [V.ren, backR, Hp.fresh]
              rw [this]; exact hx
            · rfl
end Go.Proofs.YtdblcfkmijigbaaGreat


/- Part 9 of the proof that the middle of a straight river is as at sea. No condition. -/
import Derived.Test.YtccpfempgmkmbaaGreatBm8
set_option linter.unusedVariables false
set_option linter.unusedSimpArgs false
open Go.Vm
open Riv
namespace Go.Proofs.YtccpfempgmkmbaaGreat
set_option maxRecDepth 20000
set_option maxHeartbeats 4000000

/-! ### Years -/
def yrs (l : List Mp) : V := .fs 3 l.length (l.flatMap encM)
theorem chkL_at {l : List Mp} {k : Nat} {m : Mp} (h : l[k]? = some m) : chkL (l.drop k) = if chkM m = 0 then chkL (l.drop (k + 1)) else chkM m := by
  obtain ⟨hlt, rfl⟩ := List.getElem?_eq_some_iff.1 h
  rw [List.drop_eq_getElem_cons hlt, chkL]
theorem sameB_at {l : List Mp} {k : Nat} {m x : Mp} (h : l[k]? = some m) : sameB x (l.drop k) = (decide (m.w = x.w ∧ m.h = x.h) && sameB x (l.drop (k + 1))) := by
  obtain ⟨hlt, rfl⟩ := List.getElem?_eq_some_iff.1 h
  rw [List.drop_eq_getElem_cons hlt]; rfl
theorem vc_CheckYears (l : List Mp) (h : Hp) (hl : l.length ≤ 4000000) (hc : ∀ m ∈ l, m.c.length ≤ 4000000) : VC Tryz.prog 23 [yrs l] h (I (chkY l)) h := by
  obtain ⟨E, hE⟩ : ∃ E, E = chkY l := ⟨_, rfl⟩
  rw [← hE]
  unfold chkY at hE
  by_cases h0 : 1 ≤ l.length ∧ l.length ≤ 10
  · rw [if_pos h0] at hE
    have h0s : l[0]? = some (l.headD ⟨0, 0, []⟩) := by
      cases l with
      | nil => simp at h0
      | cons a l => rfl
    refine VC.bodyC 2 Tryz.func23 rfl Tryz.ntmps23 Tryz.call23 (h.grows_refl) rfl ?_
    conv => whnf
    repeat' (first | ((first | refine zs1 ?_ | refine zs2 ?_ | refine zs3 ?_ | refine zs4 ?_ | refine zs5 ?_); conv => whnf) | ((first | apply zi1 | apply zi2 | apply zi3 | apply zi4 | apply zi5) <;> intro _ <;> first | (exfalso; omega) | contradiction | (conv => whnf)) | (refine VCall.intro (vc_from _ _ _ _) ?_; conv => whnf))
    refine VCut.at' (outer := h.lift) (marks := []) 99 [(0, yrs l)] [] ?_ ?_
    · conv => whnf
      refine Retell.turn ⟨[], 0, [], []⟩ (TurnOk.mk' _ _ [] [] (OutOk.lift _) rfl (by decide) zb trivial trivial rfl) zw zm
    conv => whnf
    repeat' (first | ((first | refine zs1 ?_ | refine zs2 ?_ | refine zs3 ?_ | refine zs4 ?_ | refine zs5 ?_); conv => whnf) | ((first | apply zi1 | apply zi2 | apply zi3 | apply zi4 | apply zi5) <;> intro _ <;> first | (exfalso; omega) | contradiction | (conv => whnf)))
    refine VCode.lpC (outer := h.lift) (marks := []) 99 (fun k : Nat => [(0, yrs l), (12, yrs l), (13, I l.length), (14, I k)]) (fun _ => []) (fun k => k ≤ l.length ∧ chkL l = chkL (l.drop k)) (fun k => l.length - k) 0 ⟨Nat.zero_le _, rfl⟩ ?_ ?_
    · conv => whnf
      refine Retell.turn ⟨[], 0, [], []⟩ (TurnOk.mk' _ _ [] [] (OutOk.lift _) rfl (by decide) zb trivial trivial rfl) zw zm
    · rintro k ⟨k1, k2⟩
      rcases Nat.lt_or_ge k l.length with k3 | k3
      · have hm : l[k]? = some l[k] := List.getElem?_eq_getElem k3
        have hmc := hc l[k] (List.getElem_mem k3)
        have hd := chkL_at hm
        generalize l[k] = m at *
        have cC := fun h => vc_check m h hmc
        generalize chkM m = e at *
        obtain ⟨mw, mh, mc⟩ := m
        by_cases he : e = 0
        · rw [if_pos he] at hd
          conv => whnf
          repeat' (first | ((first | refine zs1 ?_ | refine zs2 ?_ | refine zs3 ?_ | refine zs4 ?_ | refine zs5 ?_); conv => whnf) | ((first | apply zi1 | apply zi2 | apply zi3 | apply zi4 | apply zi5) <;> intro _ <;> first | (exfalso; omega) | contradiction | (conv => whnf)) | (refine VAny.ix encM_len k rfl rfl hm ?_; conv => whnf) | (refine VCall.intro (cC _) ?_; conv => whnf))
          refine LEnd.intro (k + 1) ⟨by omega, by rw [k2, hd]⟩ (by omega) ?_
          conv => whnf
          refine Retell.turn ⟨[], 1, [], []⟩ (TurnOk.mk' _ _ [] [] (OutOk.lift _) rfl (by decide) zb trivial trivial rfl) zw zm
        · rw [if_neg he] at hd
          have hE0 : E = e := by rw [hE, k2, hd, if_neg he]
          conv => whnf
          repeat' (first | ((first | refine zs1 ?_ | refine zs2 ?_ | refine zs3 ?_ | refine zs4 ?_ | refine zs5 ?_); conv => whnf) | ((first | apply zi1 | apply zi2 | apply zi3 | apply zi4 | apply zi5) <;> intro _ <;> first | (exfalso; omega) | contradiction | (conv => whnf)) | (refine VAny.ix encM_len k rfl rfl hm ?_; conv => whnf) | (refine VCall.intro (cC _) ?_; conv => whnf))
          rw [hE0]
          exact VOut.same rfl
      · rw [List.drop_of_length_le k3, show chkL [] = 0 from rfl] at k2
        rw [k2, if_pos rfl] at hE
        generalize l.headD ⟨0, 0, []⟩ = x at *
        conv => whnf
        repeat' (first | ((first | refine zs1 ?_ | refine zs2 ?_ | refine zs3 ?_ | refine zs4 ?_ | refine zs5 ?_); conv => whnf) | ((first | apply zi1 | apply zi2 | apply zi3 | apply zi4 | apply zi5) <;> intro _ <;> first | (exfalso; omega) | contradiction | (conv => whnf)))
        refine VCode.lpC (outer := h.lift) (marks := []) 99 (fun k : Nat => [(0, yrs l), (24, yrs l), (25, I l.length), (26, I k)]) (fun _ => []) (fun k => k ≤ l.length ∧ sameB x l = sameB x (l.drop k)) (fun k => l.length - k) 0 ⟨Nat.zero_le _, rfl⟩ ?_ ?_
        · conv => whnf
          refine Retell.turn ⟨[], 0, [], []⟩ (TurnOk.mk' _ _ [] [] (OutOk.lift _) rfl (by decide) zb trivial trivial rfl) zw zm
        · rintro k ⟨j1, j2⟩
          rcases Nat.lt_or_ge k l.length with j3 | j3
          · have hm : l[k]? = some l[k] := List.getElem?_eq_getElem j3
            have hd := sameB_at (x := x) hm
            generalize l[k] = m at *
            obtain ⟨mw, mh, mc⟩ := m
            obtain ⟨xw, xh, xc⟩ := x
            dsimp only at hd
            by_cases he : mw = xw ∧ mh = xh
            · rw [decide_eq_true he, Bool.true_and] at hd
              conv => whnf
              repeat' (first | ((first | refine zs1 ?_ | refine zs2 ?_ | refine zs3 ?_ | refine zs4 ?_ | refine zs5 ?_); conv => whnf) | ((first | apply zi1 | apply zi2 | apply zi3 | apply zi4 | apply zi5) <;> intro _ <;> conv => whnf) | (refine VAny.ix encM_len k rfl rfl hm ?_; conv => whnf))
              all_goals try (exfalso; omega)
              refine zs6 [] ?_
              conv => whnf
              repeat' (first | ((first | refine zs1 ?_ | refine zs2 ?_ | refine zs3 ?_ | refine zs4 ?_ | refine zs5 ?_); conv => whnf) | ((first | apply zi1 | apply zi2 | apply zi3 | apply zi4 | apply zi5) <;> intro _ <;> conv => whnf) | (refine VAny.ix encM_len 0 rfl rfl h0s ?_; conv => whnf))
              all_goals first
                | (exfalso; dsimp only at *; omega)
                | (refine LEnd.intro (k + 1) ⟨by omega, by rw [j2, hd]⟩ (by omega) ?_
                   conv => whnf
                   refine Retell.turn ⟨[], 1, [], []⟩ (TurnOk.mk' _ _ [] [] (OutOk.lift _) rfl (by decide) zb trivial trivial rfl) zw zm)
            · rw [decide_eq_false he, Bool.false_and] at hd
              have hE0 : E = 2 := by rw [hE, j2, hd]; rfl
              conv => whnf
              repeat' (first | ((first | refine zs1 ?_ | refine zs2 ?_ | refine zs3 ?_ | refine zs4 ?_ | refine zs5 ?_); conv => whnf) | ((first | apply zi1 | apply zi2 | apply zi3 | apply zi4 | apply zi5) <;> intro _ <;> conv => whnf) | (refine VAny.ix encM_len k rfl rfl hm ?_; conv => whnf))
              all_goals try (exfalso; omega)
              refine zs6 [] ?_
              conv => whnf
              repeat' (first | ((first | refine zs1 ?_ | refine zs2 ?_ | refine zs3 ?_ | refine zs4 ?_ | refine zs5 ?_); conv => whnf) | ((first | apply zi1 | apply zi2 | apply zi3 | apply zi4 | apply zi5) <;> intro _ <;> conv => whnf) | (refine VAny.ix encM_len 0 rfl rfl h0s ?_; conv => whnf))
              all_goals first
                | (exfalso; dsimp only at *; omega)
                | (rw [hE0]; exact VOut.same rfl)
          · rw [List.drop_of_length_le j3, show sameB x [] = true from rfl] at j2
            rw [j2, cond_true] at hE
            subst hE
            conv => whnf
            repeat' (first | ((first | refine zs1 ?_ | refine zs2 ?_ | refine zs3 ?_ | refine zs4 ?_ | refine zs5 ?_); conv => whnf) | ((first | apply zi1 | apply zi2 | apply zi3 | apply zi4 | apply zi5) <;> intro _ <;> first | (exfalso; omega) | contradiction | (conv => whnf)))
            exact VOut.same rfl
  · rw [if_neg h0] at hE
    subst hE
    refine VC.body Tryz.func23 rfl Tryz.ntmps23 Tryz.call23 (h.grows_refl) rfl ?_; conv => whnf
    repeat' (first | ((first | refine zs1 ?_ | refine zs2 ?_ | refine zs3 ?_ | refine zs4 ?_ | refine zs5 ?_); conv => whnf) | ((first | apply zi1 | apply zi2 | apply zi3 | apply zi4 | apply zi5) <;> intro _ <;> first | (exfalso; omega) | contradiction | (conv => whnf)) | (refine VCall.intro (vc_from _ _ _ _) ?_; conv => whnf))
    exact VOut.same rfl
/-! ### Changes -/
theorem vc_changes {W H : Nat} (a b : Mp) (h : Hp) (o : MOk W H a.c) (hw : a.w = W) (hl : b.c.length = a.c.length) : VC Tryz.prog 42 [vM a, vM b] h (intss (natLL (chg a.c b.c W))) h := by
  have hm144 := MOk.le o
  have hdl : (diffs a.c b.c).length = a.c.length := by unfold diffs; simp
  have cP := fun h => vc_partsB a (diffs a.c b.c) h o hw hdl
  have hdf : diffs a.c b.c = (List.range a.c.length).map fun n => decide (at0 a.c n ≠ at0 b.c n) := rfl
  rw [show parts (diffs a.c b.c) W = chg a.c b.c W from rfl] at cP
  obtain ⟨f, hf⟩ : ∃ f, f = fun n : Nat => decide (at0 a.c n ≠ at0 b.c n) := ⟨_, rfl⟩
  rw [← hf] at hdf
  generalize diffs a.c b.c = mk at *
  generalize chg a.c b.c W = R at *
  obtain ⟨aw, ah, ac⟩ := a
  obtain ⟨bw, bh, bc⟩ := b
  dsimp only at *
  show VC Tryz.prog 42 [.agg [I aw, I ah, ints ac], .agg [I bw, I bh, ints bc]] h _ h
  refine VC.bodyC 1 Tryz.func42 rfl Tryz.ntmps42 Tryz.call42 (h.grows_refl) rfl ?_
  conv => whnf
  repeat' (first | ((first | refine zs1 ?_ | refine zs2 ?_ | refine zs3 ?_ | refine zs4 ?_ | refine zs5 ?_); conv => whnf) | ((first | apply zi1 | apply zi2 | apply zi3 | apply zi4 | apply zi5) <;> intro _ <;> conv => whnf))
  refine VCut.at' (outer := h.lift) (marks := []) 99 [(2, .fp [DI aw, DI ah, dints ac]), (3, .fp [DI bw, DI bh, dints bc])] [] ?_ ?_
  · conv => whnf
    refine Retell.turn ⟨[], 2, [(0, [DI aw, DI ah, dints ac]), (1, [DI bw, DI bh, dints bc])], []⟩ (TurnOk.mk' _ _ [(0, [DI aw, DI ah, dints ac]), (1, [DI bw, DI bh, dints bc])] [] (OutOk.lift _) rfl (by decide) zb zf trivial rfl) zw zm
  conv => whnf
  repeat' (first | ((first | refine zs1 ?_ | refine zs2 ?_ | refine zs3 ?_ | refine zs4 ?_ | refine zs5 ?_); conv => whnf) | ((first | apply zi1 | apply zi2 | apply zi3 | apply zi4 | apply zi5) <;> intro _ <;> conv => whnf) | (refine VMem.make false encB_len rfl rfl rfl rfl rfl rfl (by omega) ?_; conv => whnf))
  refine VCode.lpC (outer := h.lift) (marks := []) 99 (fun k : Nat => [(2, .fp [DI aw, DI ah, dints ac]), (3, .fp [DI bw, DI bh, dints bc]), (5, .gl (.loc 0) 1 ac.length), (12, I ac.length), (13, I k)]) (fun k => [.flat true ((fill f false ac.length k).flatMap encB)]) (fun k => k ≤ ac.length) (fun k => ac.length - k) 0 (Nat.zero_le _) ?_ ?_
  · rw [fill_zero]
    conv => whnf
    refine Retell.turn ⟨[0], 1, [], []⟩ (TurnOk.mk' _ _ [] [] (OutOk.lift _) rfl (by decide) zb trivial trivial rfl) zw zm
  · rintro k hk
    rcases Nat.lt_or_ge k ac.length with h3 | h3
    · have hx := at0_get h3
      have hy := at0_get (l := bc) (n := k) (by omega)
      have hst := fill_step f false h3
      have hkl := fill_at f false h3
      have hfk : f k = decide (at0 ac k ≠ at0 bc k) := by rw [hf]
      generalize at0 ac k = x at *
      generalize at0 bc k = y at *
      generalize fill f false ac.length k = T at *
      have hdx : decide (x ≠ y) = (x != y) := by rw [Bool.eq_iff_iff, decide_eq_true_eq, bne_iff_ne]
      rw [hfk, hdx] at hst
      conv => whnf
      repeat' (first | ((first | refine zs1 ?_ | refine zs2 ?_ | refine zs3 ?_ | refine zs4 ?_ | refine zs5 ?_); conv => whnf) | ((first | apply zi1 | apply zi2 | apply zi3 | apply zi4 | apply zi5) <;> intro _ <;> conv => whnf))
      all_goals try (exfalso; omega)
      refine zs6 [] ?_
      conv => whnf
      repeat' (first | ((first | refine zs1 ?_ | refine zs2 ?_ | refine zs3 ?_ | refine zs4 ?_ | refine zs5 ?_); conv => whnf) | ((first | apply zi1 | apply zi2 | apply zi3 | apply zi4 | apply zi5) <;> intro _ <;> conv => whnf) | (refine VAny.ix encI_len k rfl rfl hx ?_; conv => whnf) | (refine VAny.ix encI_len k rfl (by omega) hy ?_; conv => whnf) | (refine VMem.setRec encB_len k 0 (x != y) rfl rfl rfl hkl (by decide) rfl (ofs _) ?_; conv => whnf))
      refine LEnd.intro (k + 1) (by omega) (by omega) ?_
      rw [hst]
      conv => whnf
      refine Retell.turn ⟨[0], 1, [], []⟩ (TurnOk.mk' _ _ [] [] (OutOk.lift _) rfl (by decide) zb trivial trivial rfl) zw zm
    · obtain rfl : k = ac.length := by omega
      rw [fill_all, ← hdf]
      have hmf : (mk.flatMap encB).length = ac.length * 1 := by rw [flat_len encB_len, hdl]
      have hbm : bools mk = .fs 1 ac.length (mk.flatMap encB) := by unfold bools; rw [hdl]
      rw [hbm] at cP
      conv => whnf
      repeat' (first | ((first | refine zs1 ?_ | refine zs2 ?_ | refine zs3 ?_ | refine zs4 ?_ | refine zs5 ?_); conv => whnf) | ((first | apply zi1 | apply zi2 | apply zi3 | apply zi4 | apply zi5) <;> intro _ <;> first | (exfalso; omega) | contradiction | (conv => whnf)))
      refine VCall.intro (VC.give (args' := [.agg [I aw, I ah, ints ac], .fs 1 ac.length (mk.flatMap encB), .func (.func 66) [] []]) (loc' := [.dead]) [(0, mk.flatMap encB)] [] (OutOk.lift _) zb zf (by exact FmAll.nil) rfl zw (cP _)) ?_
      conv => whnf
      repeat' (first | ((first | refine zs1 ?_ | refine zs2 ?_ | refine zs3 ?_ | refine zs4 ?_ | refine zs5 ?_); conv => whnf) | ((first | apply zi1 | apply zi2 | apply zi3 | apply zi4 | apply zi5) <;> intro _ <;> conv => whnf))
      exact VOut.same rfl
end Go.Proofs.YtccpfempgmkmbaaGreat

open Go.Vm
open Riv
namespace Go.Vm
theorem VMem.appRow {P : Program} {t ty : TypeId} {e esz bytes : Nat} {zero : List V} {s_ : Nat} {a_ : Bool} {z_ : V} {h : Hp} {i j : Id} {n : Nat} {b : Blk} {l news : List V} {rw : Bool} {K : V → Hp → Prop} (hTt : tiOf P t = some ⟨.slice e esz bytes zero, s_, a_, z_⟩)
    (hb : h.get i = some b) (hrow : b.row = some (true, l)) (hj : h.get j = some (.cells rw news)) (hnl : news.length = esz) (hn : l.length = n * esz) (hby : Nat.ble bytes 1048576 = true) (h63 : n ≤ 67108864)
    (hK : K (.gl h.fresh esz (n + 1)) ((h.set i .dead).push (.cells true (l ++ news)))) : VMem P (opAppend #[t, t] ty) [.gl i esz n, .gl j esz 1] h K := by
  have hbd := mul_bd (n := n + 1) hby (by omega)
  refine VMem.intro (does_append_gl (b := b) (l := l) (news := news) (tiOf_ok P) hTt hb hrow ?_ ?_ ?_ hbd (by omega)) hK
  · simp only [SegOf]
    exact ⟨trivial, trivial, _, rw, news, hj, rfl, by omega, by rw [List.take_of_length_le (by omega)]⟩
  · omega
  · have : List.take (n * esz) l = l := List.take_of_length_le (by omega)
    simp [Blk.row, this]
end Go.Vm
namespace Go.Proofs.YtccpfempgmkmbaaGreat
set_option maxRecDepth 20000
set_option maxHeartbeats 4000000

def mp0 : Mp := ⟨0, 0, []⟩
def lawY (W : Nat) (l : List Mp) (slow : Int) : List Mp := (List.range l.length).map fun y => ⟨(l.getD y mp0).w, (l.getD y mp0).h, lawAt W (cellsY l) slow y⟩
theorem lawY_len (W : Nat) (l : List Mp) (slow : Int) : (lawY W l slow).length = l.length := by simp [lawY]
theorem lawY_at {W : Nat} {l : List Mp} {slow : Int} {y : Nat} (hy : y < l.length) : (lawY W l slow)[y]? = some ⟨(l.getD y mp0).w, (l.getD y mp0).h, lawAt W (cellsY l) slow y⟩ := by
  unfold lawY; rw [List.getElem?_map, List.getElem?_range hy]; rfl
structure YOk (W H : Nat) (l : List Mp) : Prop where
  n : 1 ≤ l.length ∧ l.length ≤ 10
  all : ∀ m ∈ l, m.w = W ∧ m.h = H ∧ MOk W H m.c
theorem YOk.get {W H : Nat} {l : List Mp} (o : YOk W H l) {y : Nat} (hy : y < l.length) : l[y]? = some (l.getD y mp0) ∧ (l.getD y mp0).w = W ∧ (l.getD y mp0).h = H ∧ MOk W H (l.getD y mp0).c := by
  have h1 : l[y]? = some (l.getD y mp0) := by rw [List.getD_eq_getElem?_getD, List.getElem?_eq_getElem hy]; rfl
  exact ⟨h1, o.all _ (List.mem_of_getElem? h1)⟩
theorem cellsY_at {l : List Mp} {y : Nat} (hy : y < l.length) : (cellsY l).getD y [] = (l.getD y mp0).c := by
  unfold cellsY
  rw [List.getD_eq_getElem?_getD, List.getElem?_map, List.getElem?_eq_getElem hy, List.getD_eq_getElem?_getD, List.getElem?_eq_getElem hy]; rfl
theorem cellsY_len (l : List Mp) : (cellsY l).length = l.length := by simp [cellsY]
theorem YOk.yrs {W H : Nat} {l : List Mp} (o : YOk W H l) : Yrs W H (cellsY l) := by
  have h0 := (o.get (y := 0) (by have := o.n; omega)).2.2.2
  refine ⟨by have := h0.w; omega, ?_, fun y hy => ?_⟩
  · have := MOk.le h0
    rw [h0.len] at this; omega
  · rw [cellsY_len] at hy
    rw [cellsY_at hy]
    exact (o.get hy).2.2.2.len
theorem chkY_YOk {l : List Mp} (h : chkY l = 0) : ∃ W H : Nat, YOk W H l := by
  obtain ⟨W, H, h1, h2⟩ := chkY_ok h
  exact ⟨W, H, h1, h2⟩
def lyK (W : Nat) (slow : Int) (a b now : List Int) (i : Nat) : List Int := ((chg a b W).take i).foldl (lstep slow b) now
theorem lyK_step {W : Nat} {slow : Int} {a b now : List Int} {i : Nat} {cs : List Nat} (h : (chg a b W)[i]? = some cs) : lyK W slow a b now (i + 1) = lstep slow b (lyK W slow a b now i) cs := by
  unfold lyK
  rw [List.take_add_one, h, List.foldl_append]; rfl
theorem lyK_len (W : Nat) (slow : Int) (a b now : List Int) (i : Nat) : (lyK W slow a b now i).length = now.length := lyear_go_len _ _ _ _
theorem lset_step (b out : List Int) (cs : List Nat) (n : Nat) : lset b out (cs ++ [n]) = (lset b out cs).set n (at0 b n) := by unfold lset; rw [List.foldl_append]; rfl
theorem chg_cnt {a b : List Int} {W H : Nat} (hW : 2 ≤ W) (hL : a.length = W * H) : (chg a b W).length ≤ a.length := by
  have := (pfK_ok (mk := diffs a b) (W := W) (H := H) hW (by rw [diffs_len]; exact hL) (diffs a b).length).2.2
  rw [diffs_len] at this
  have e : chg a b W = (pfK (diffs a b) W a.length).2 := by unfold chg parts pfK; rw [diffs_len]
  rw [e]; exact this
theorem ofsY (Y : Nat) : (((Y + 1 : Nat) : Int) - 1).toNat * (2 + 1) + 2 = Y * 3 + 2 := by
  have : (((Y + 1 : Nat) : Int) - 1).toNat = Y := by omega
  rw [this]
theorem vc_law {W H : Nat} (l : List Mp) (slow : Int) (h : Hp) (o : YOk W H l) : VC Tryz.prog 25 [yrs l, I slow] h (yrs (lawY W l slow)) h := by
  have hn := o.n
  have hAl := lawY_len W l slow
  have hAt := fun y hy => lawY_at (W := W) (l := l) (slow := slow) (y := y) hy
  have hget := fun y hy => o.get (y := y) hy
  have hlen := fun y hy => lawAt_len o.yrs slow y (by rw [cellsY_len]; exact hy)
  have hstep : ∀ y, y + 1 < l.length → lawAt W (cellsY l) slow (y + 1) = lyear W slow (l.getD y mp0).c (l.getD (y + 1) mp0).c (lawAt W (cellsY l) slow y) := fun y hy => by
    rw [lawAt, cellsY_at (by omega), cellsY_at hy]
  have hzero : lawAt W (cellsY l) slow 0 = (l.getD 0 mp0).c := by rw [lawAt, cellsY_at (by omega)]
  generalize lawY W l slow = A at *
  generalize lawAt W (cellsY l) slow = q at *
  have hsn : ∀ y, y < l.length → A.take (y + 1) = A.take y ++ [⟨(l.getD y mp0).w, (l.getD y mp0).h, q y⟩] := fun y hy => by rw [List.take_add_one, hAt y hy]; rfl
  refine VC.bodyC 1 Tryz.func25 rfl Tryz.ntmps25 Tryz.call25 (h.grows_refl) rfl ?_
  conv => whnf
  repeat' (first | ((first | refine zs1 ?_ | refine zs2 ?_ | refine zs3 ?_ | refine zs4 ?_ | refine zs5 ?_); conv => whnf) | ((first | apply zi1 | apply zi2 | apply zi3 | apply zi4 | apply zi5) <;> intro _ <;> conv => whnf))
  refine VCut.at' (outer := h.lift) (marks := []) 99 [(0, yrs l), (1, I slow)] [] ?_ ?_
  · conv => whnf
    refine Retell.turn ⟨[], 0, [], []⟩ (TurnOk.mk' _ _ [] [] (OutOk.lift _) rfl (by decide) zb trivial trivial rfl) zw zm
  conv => whnf
  repeat' (first | ((first | refine zs1 ?_ | refine zs2 ?_ | refine zs3 ?_ | refine zs4 ?_ | refine zs5 ?_); conv => whnf) | ((first | apply zi1 | apply zi2 | apply zi3 | apply zi4 | apply zi5) <;> intro _ <;> conv => whnf))
  refine VCode.lpC (outer := h.lift) (marks := []) 99 (fun y : Nat => [(0, yrs l), (1, I slow), (5, .gl (.loc 0) 3 y), (13, yrs l), (14, I l.length), (15, I y)]) (fun y => [.flat true ((A.take y).flatMap encM)]) (fun y => y ≤ l.length) (fun y => l.length - y) 0 (Nat.zero_le _) ?_ ?_
  · conv => whnf
    refine Retell.turn ⟨[0], 0, [], []⟩ (TurnOk.mk' _ _ [] [] (OutOk.lift _) rfl (by decide) zb trivial trivial rfl) zw zm
  · rintro y hy
    rcases Nat.lt_or_ge y l.length with h3 | h3
    · obtain ⟨hm, hmw, hmh, hmo⟩ := hget y h3
      have hsn := hsn y h3
      have hqy := hlen y h3
      have hm144 := MOk.le hmo
      have hmL := hmo.len
      have hst : (A.take y).length = y := by rw [List.length_take]; omega
      rcases Nat.eq_zero_or_pos y with hy0 | hy0
      · subst hy0
        rw [hzero] at hsn
        generalize l.getD 0 mp0 = m at *
        obtain ⟨mw, mh, mc⟩ := m
        dsimp only at *
        conv => whnf
        repeat' (first | ((first | refine zs1 ?_ | refine zs2 ?_ | refine zs3 ?_ | refine zs4 ?_ | refine zs5 ?_); conv => whnf) | ((first | apply zi1 | apply zi2 | apply zi3 | apply zi4 | apply zi5) <;> intro _ <;> conv => whnf) | (refine VAny.ix encM_len 0 rfl rfl hm ?_; conv => whnf))
        all_goals try (exfalso; omega)
        refine zs6 [] ?_
        conv => whnf
        repeat' (first | ((first | refine zs1 ?_ | refine zs2 ?_ | refine zs3 ?_ | refine zs4 ?_ | refine zs5 ?_); conv => whnf) | ((first | apply zi1 | apply zi2 | apply zi3 | apply zi4 | apply zi5) <;> intro _ <;> conv => whnf) | (refine VMkD.makeI mc.length rfl rfl rfl rfl rfl (by decide) (by omega) ?_; conv => whnf))
        refine VMem.copyFs (l := List.replicate mc.length (0 : Int)) (l2 := mc) encI_len rfl rfl (by simp) rfl rfl ?_
        conv => whnf
        repeat' (first | ((first | refine zs1 ?_ | refine zs2 ?_ | refine zs3 ?_ | refine zs4 ?_ | refine zs5 ?_); conv => whnf) | ((first | apply zi1 | apply zi2 | apply zi3 | apply zi4 | apply zi5) <;> intro _ <;> conv => whnf))
        refine VMem.appRow (l := ((A.take 0).flatMap encM).map D.v) (news := [I mw, I mh, .gl (.loc 2) 1 mc.length]) rfl rfl rfl rfl rfl (by simp) rfl (by omega) ?_
        conv => whnf
        repeat' (first | ((first | refine zs1 ?_ | refine zs2 ?_ | refine zs3 ?_ | refine zs4 ?_ | refine zs5 ?_); conv => whnf) | ((first | apply zi1 | apply zi2 | apply zi3 | apply zi4 | apply zi5) <;> intro _ <;> conv => whnf))
        refine LEnd.intro 1 (by omega) (by omega) ?_
        rw [hsn]
        conv => whnf
        refine Retell.turn ⟨[5], 6, [(2, mc.flatMap Vm.encI)], []⟩ (TurnOk.mk' _ _ [(2, mc.flatMap Vm.encI)] [] (OutOk.lift _) rfl (by decide) (BTos.row rfl rfl rfl (RowTo.snoc (RowTo.vtos zv)) BTos.nil) zf trivial rfl) zw zm
      · obtain ⟨Y, rfl⟩ : ∃ Y, y = Y + 1 := ⟨y - 1, by omega⟩
        obtain ⟨ha, haw, hah, hao⟩ := hget Y (by omega)
        have hAp := hAt Y (by omega)
        have hAp2 : (A.take (Y + 1))[Y]? = some ⟨(l.getD Y mp0).w, (l.getD Y mp0).h, q Y⟩ := by rw [List.getElem?_take, if_pos (by omega)]; exact hAp
        have hqp := hlen Y (by omega)
        have hst2 := hstep Y h3
        have haL := hao.len
        have hWb := hao.w
        have cC := fun h => vc_changes (l.getD Y mp0) (l.getD (Y + 1) mp0) h hao haw (by omega)
        have hly : lyear W slow (l.getD Y mp0).c (l.getD (Y + 1) mp0).c (q Y) = lyK W slow (l.getD Y mp0).c (l.getD (Y + 1) mp0).c (q Y) (chg (l.getD Y mp0).c (l.getD (Y + 1) mp0).c W).length := by
          unfold lyear lyK; rw [List.take_of_length_le (Nat.le_refl _)]
        rw [hly] at hst2
        have hks := fun i cs hcs => lyK_step (W := W) (slow := slow) (a := (l.getD Y mp0).c) (b := (l.getD (Y + 1) mp0).c) (now := q Y) (i := i) (cs := cs) hcs
        have hkl := fun i => lyK_len W slow (l.getD Y mp0).c (l.getD (Y + 1) mp0).c (q Y) i
        have hk0 : lyK W slow (l.getD Y mp0).c (l.getD (Y + 1) mp0).c (q Y) 0 = q Y := rfl
        have hcm := fun cs hcs => chg_mem (a := (l.getD Y mp0).c) (b := (l.getD (Y + 1) mp0).c) (W := W) (H := H) (cs := cs) (by omega) haL (by have := MOk.le hao; omega) hcs
        have hcl := chg_cnt (a := (l.getD Y mp0).c) (b := (l.getD (Y + 1) mp0).c) (W := W) (H := H) (by omega) haL
        generalize lyK W slow (l.getD Y mp0).c (l.getD (Y + 1) mp0).c (q Y) = uk at *
        generalize chg (l.getD Y mp0).c (l.getD (Y + 1) mp0).c W = R at *
        have hRl : (natLL R).length = R.length := by unfold natLL; rw [List.length_map]
        generalize l.getD Y mp0 = am at *
        generalize l.getD (Y + 1) mp0 = m at *
        generalize q Y = qp at *
        rw [hst2] at hsn
        obtain ⟨aw, ah, ac⟩ := am
        obtain ⟨mw, mh, mc⟩ := m
        dsimp only at *
        have hm2 := MOk.le hao
        conv => whnf
        repeat' (first | ((first | refine zs1 ?_ | refine zs2 ?_ | refine zs3 ?_ | refine zs4 ?_ | refine zs5 ?_); conv => whnf) | ((first | apply zi1 | apply zi2 | apply zi3 | apply zi4 | apply zi5) <;> intro _ <;> conv => whnf) | (refine VAny.ix encM_len (Y + 1) rfl rfl hm ?_; conv => whnf))
        all_goals try (exfalso; omega)
        refine zs6 [] ?_
        conv => whnf
        repeat' (first | ((first | refine zs1 ?_ | refine zs2 ?_ | refine zs3 ?_ | refine zs4 ?_ | refine zs5 ?_); conv => whnf) | ((first | apply zi1 | apply zi2 | apply zi3 | apply zi4 | apply zi5) <;> intro _ <;> conv => whnf) | (refine VMkD.makeI mc.length rfl rfl rfl rfl rfl (by decide) (by omega) ?_; conv => whnf))
        all_goals try (exfalso; omega)
        refine zs6 [] ?_
        conv => whnf
        repeat' (first | ((first | refine zs1 ?_ | refine zs2 ?_ | refine zs3 ?_ | refine zs4 ?_ | refine zs5 ?_); conv => whnf) | ((first | apply zi1 | apply zi2 | apply zi3 | apply zi4 | apply zi5) <;> intro _ <;> conv => whnf) | (refine VLd.recc (d := .sl 1 qp.length (qp.flatMap Vm.encI)) encM_len Y 2 rfl rfl rfl hAp2 (by decide) rfl (ofsY Y) ?_; conv => whnf))
        refine VMem.copyFs (l := List.replicate mc.length (0 : Int)) (l2 := qp) encI_len rfl rfl (by simp) rfl (by omega) ?_
        conv => whnf
        repeat' (first | ((first | refine zs1 ?_ | refine zs2 ?_ | refine zs3 ?_ | refine zs4 ?_ | refine zs5 ?_); conv => whnf) | ((first | apply zi1 | apply zi2 | apply zi3 | apply zi4 | apply zi5) <;> intro _ <;> conv => whnf))
        refine zs6 [] ?_
        conv => whnf
        repeat' (first | ((first | refine zs1 ?_ | refine zs2 ?_ | refine zs3 ?_ | refine zs4 ?_ | refine zs5 ?_); conv => whnf) | ((first | apply zi1 | apply zi2 | apply zi3 | apply zi4 | apply zi5) <;> intro _ <;> conv => whnf) | (refine VAny.ix encM_len Y (by omega) rfl ha ?_; conv => whnf) | (refine VCall.intro (cC _) ?_; conv => whnf))
        refine VCode.lpC (outer := h.lift) (marks := []) 99 (fun i : Nat => [(0, yrs l), (1, I slow), (5, .gl (.loc 0) 3 (Y + 1)), (13, yrs l), (14, I l.length), (15, I (Y + 1 : Nat)), (7, .fp [DI mw, DI mh, dints mc]), (8, .ptr (.loc 1) 0), (51, intss (natLL R)), (52, I R.length), (53, I i)]) (fun i => [.flat true ((A.take (Y + 1)).flatMap encM), .cells true [I mw, I mh, .gl (.loc 2) 1 mc.length], .flat true ((uk i).flatMap Vm.encI)]) (fun i => i ≤ R.length) (fun i => R.length - i) 0 (Nat.zero_le _) ?_ ?_
        · rw [hk0, ← hRl]
          conv => whnf
          refine Retell.turn ⟨[0,3,2], 4, [(1, [DI mw, DI mh, dints mc])], []⟩ (TurnOk.mk' _ _ [(1, [DI mw, DI mh, dints mc])] [] (OutOk.lift _) rfl (by decide) zb zf trivial rfl) zw zm
        · rintro i hi
          rcases Nat.lt_or_ge i R.length with h4 | h4
          · obtain ⟨cs, hlk⟩ : ∃ cs, R[i]? = some cs := ⟨_, List.getElem?_eq_getElem h4⟩
            have hcm := hcm cs (List.mem_of_getElem? hlk)
            have hks := hks i cs hlk
            have hnk : (natLL R)[i]? = some (natI cs) := by unfold natLL; rw [List.getElem?_map, hlk]; rfl
            have hnat := fun j hj => natI_at (ks := cs) (i := j) hj
            have hnl := natI_len cs
            have hkl := hkl i
            clear hlk
            generalize natI cs = nl at *
            generalize uk i = U at *
            unfold lstep at hks
            obtain ⟨hc1, hc2, hc3, hc4⟩ := hcm
            conv => whnf
            repeat' (first | ((first | refine zs1 ?_ | refine zs2 ?_ | refine zs3 ?_ | refine zs4 ?_ | refine zs5 ?_); conv => whnf) | ((first | apply zi1 | apply zi2 | apply zi3 | apply zi4 | apply zi5) <;> intro _ <;> first | (exfalso; omega) | contradiction | (conv => whnf)) | (refine VAny.ix encL_len i (by omega) (by omega) hnk ?_; conv => whnf))
            by_cases hsl : (cs.length : Int) ≤ slow
            · rw [if_pos hsl] at hks
              refine VCode.lpC (outer := h.lift) (marks := []) 99 (fun j : Nat => [(0, yrs l), (1, I slow), (5, .gl (.loc 0) 3 (Y + 1)), (13, yrs l), (14, I l.length), (15, I (Y + 1 : Nat)), (7, .fp [DI mw, DI mh, dints mc]), (8, .ptr (.loc 1) 0), (51, intss (natLL R)), (52, I R.length), (53, I i), (10, ints nl), (57, ints nl), (58, I cs.length), (59, I j)]) (fun j => [.flat true ((A.take (Y + 1)).flatMap encM), .cells true [I mw, I mh, .gl (.loc 2) 1 mc.length], .flat true ((lset mc U (cs.take j)).flatMap Vm.encI)]) (fun j => j ≤ cs.length) (fun j => cs.length - j) 0 (Nat.zero_le _) ?_ ?_
              · rw [← hnl, show lset mc U (cs.take 0) = U from rfl]
                conv => whnf
                refine Retell.turn ⟨[0,1,2], 3, [], []⟩ (TurnOk.mk' _ _ [] [] (OutOk.lift _) rfl (by decide) zb trivial trivial rfl) zw zm
              · rintro j hj
                rcases Nat.lt_or_ge j cs.length with h5 | h5
                · have hn := hnat j h5
                  have hnc : cs.getD j 0 < ac.length := by
                    refine (hc4 _ ?_).1
                    rw [List.getD_eq_getElem?_getD, List.getElem?_eq_getElem h5]
                    exact List.getElem_mem h5
                  have htk : cs.take (j + 1) = cs.take j ++ [cs.getD j 0] := by
                    rw [List.take_add_one, List.getD_eq_getElem?_getD, List.getElem?_eq_getElem h5]; rfl
                  have hst3 := lset_step mc U (cs.take j) (cs.getD j 0)
                  rw [← htk] at hst3
                  have hul := lset_len mc U (cs.take j)
                  generalize lset mc U (cs.take j) = V1 at *
                  generalize cs.getD j 0 = n at *
                  have hu := at0_get (l := V1) (n := n) (by omega)
                  have hy := at0_get (l := mc) (n := n) (by omega)
                  generalize at0 mc n = v at *
                  conv => whnf
                  repeat' (first | ((first | refine zs1 ?_ | refine zs2 ?_ | refine zs3 ?_ | refine zs4 ?_ | refine zs5 ?_); conv => whnf) | ((first | apply zi1 | apply zi2 | apply zi3 | apply zi4 | apply zi5) <;> intro _ <;> conv => whnf) | (refine VAny.ix encI_len j rfl (by omega) hn ?_; conv => whnf))
                  all_goals try (exfalso; omega)
                  refine zs6 [] ?_
                  conv => whnf
                  repeat' (first | ((first | refine zs1 ?_ | refine zs2 ?_ | refine zs3 ?_ | refine zs4 ?_ | refine zs5 ?_); conv => whnf) | ((first | apply zi1 | apply zi2 | apply zi3 | apply zi4 | apply zi5) <;> intro _ <;> conv => whnf) | (refine VAny.ix encI_len n rfl rfl hy ?_; conv => whnf) | (refine VMem.setRec encI_len n 0 v rfl rfl rfl hu (by decide) rfl (ofs _) ?_; conv => whnf))
                  refine LEnd.intro (j + 1) (by omega) (by omega) ?_
                  rw [hst3]
                  conv => whnf
                  refine Retell.turn ⟨[0,1,2], 3, [], []⟩ (TurnOk.mk' _ _ [] [] (OutOk.lift _) rfl (by decide) zb trivial trivial rfl) zw zm
                · obtain rfl : j = cs.length := by omega
                  rw [List.take_of_length_le (Nat.le_refl _), ← hks]
                  conv => whnf
                  repeat' (first | ((first | refine zs1 ?_ | refine zs2 ?_ | refine zs3 ?_ | refine zs4 ?_ | refine zs5 ?_); conv => whnf) | ((first | apply zi1 | apply zi2 | apply zi3 | apply zi4 | apply zi5) <;> intro _ <;> first | (exfalso; omega) | contradiction | (conv => whnf)))
                  refine LEnd.intro (i + 1) (by omega) (by omega) ?_
                  generalize uk (i + 1) = V1
                  conv => whnf
                  refine Retell.turn ⟨[0,1,2], 3, [], []⟩ (TurnOk.mk' _ _ [] [] (OutOk.lift _) rfl (by decide) zb trivial trivial rfl) zw zm
            · rw [if_neg hsl] at hks
              refine VCode.lpC (outer := h.lift) (marks := []) 99 (fun j : Nat => [(0, yrs l), (1, I slow), (5, .gl (.loc 0) 3 (Y + 1)), (13, yrs l), (14, I l.length), (15, I (Y + 1 : Nat)), (7, .fp [DI mw, DI mh, dints mc]), (8, .ptr (.loc 1) 0), (51, intss (natLL R)), (52, I R.length), (53, I i), (10, ints nl), (57, ints nl), (58, I cs.length), (59, I j)]) (fun j => [.flat true ((A.take (Y + 1)).flatMap encM), .cells true [I mw, I mh, .gl (.loc 2) 1 mc.length], .flat true (U.flatMap Vm.encI)]) (fun j => j ≤ cs.length) (fun j => cs.length - j) 0 (Nat.zero_le _) ?_ ?_
              · rw [← hnl]
                conv => whnf
                refine Retell.turn ⟨[0,1,2], 3, [], []⟩ (TurnOk.mk' _ _ [] [] (OutOk.lift _) rfl (by decide) zb trivial trivial rfl) zw zm
              · rintro j hj
                rcases Nat.lt_or_ge j cs.length with h5 | h5
                · have hn := hnat j h5
                  conv => whnf
                  repeat' (first | ((first | refine zs1 ?_ | refine zs2 ?_ | refine zs3 ?_ | refine zs4 ?_ | refine zs5 ?_); conv => whnf) | ((first | apply zi1 | apply zi2 | apply zi3 | apply zi4 | apply zi5) <;> intro _ <;> first | (exfalso; omega) | contradiction | (conv => whnf)) | (refine VAny.ix encI_len j rfl (by omega) hn ?_; conv => whnf))
                  refine LEnd.intro (j + 1) (by omega) (by omega) ?_
                  conv => whnf
                  refine Retell.turn ⟨[0,1,2], 3, [], []⟩ (TurnOk.mk' _ _ [] [] (OutOk.lift _) rfl (by decide) zb trivial trivial rfl) zw zm
                · obtain rfl : j = cs.length := by omega
                  conv => whnf
                  repeat' (first | ((first | refine zs1 ?_ | refine zs2 ?_ | refine zs3 ?_ | refine zs4 ?_ | refine zs5 ?_); conv => whnf) | ((first | apply zi1 | apply zi2 | apply zi3 | apply zi4 | apply zi5) <;> intro _ <;> first | (exfalso; omega) | contradiction | (conv => whnf)))
                  refine LEnd.intro (i + 1) (by omega) (by omega) ?_
                  rw [hks]
                  conv => whnf
                  refine Retell.turn ⟨[0,1,2], 3, [], []⟩ (TurnOk.mk' _ _ [] [] (OutOk.lift _) rfl (by decide) zb trivial trivial rfl) zw zm
          · obtain rfl : i = R.length := by omega
            have hkl := hkl R.length
            generalize uk R.length = V1 at *
            conv => whnf
            repeat' (first | ((first | refine zs1 ?_ | refine zs2 ?_ | refine zs3 ?_ | refine zs4 ?_ | refine zs5 ?_); conv => whnf) | ((first | apply zi1 | apply zi2 | apply zi3 | apply zi4 | apply zi5) <;> intro _ <;> first | (exfalso; omega) | contradiction | (conv => whnf)))
            refine VMem.appRow (l := ((A.take (Y + 1)).flatMap encM).map D.v) (news := [I mw, I mh, .gl (.loc 2) 1 mc.length]) rfl rfl rfl rfl rfl (by rw [List.length_map, flat_len encM_len, hst]) rfl (by omega) ?_
            conv => whnf
            repeat' (first | ((first | refine zs1 ?_ | refine zs2 ?_ | refine zs3 ?_ | refine zs4 ?_ | refine zs5 ?_); conv => whnf) | ((first | apply zi1 | apply zi2 | apply zi3 | apply zi4 | apply zi5) <;> intro _ <;> conv => whnf))
            refine LEnd.intro (Y + 1 + 1) (by omega) (by omega) ?_
            rw [hsn]
            have e : mc.length = V1.length := by omega
            rw [e]
            conv => whnf
            refine Retell.turn ⟨[4], 5, [(2, V1.flatMap Vm.encI)], []⟩ (TurnOk.mk' _ _ [(2, V1.flatMap Vm.encI)] [] (OutOk.lift _) rfl (by decide) (BTos.row rfl rfl rfl (RowTo.snoc (RowTo.vtos zv)) BTos.nil) zf trivial rfl) zw zm
    · obtain rfl : y = l.length := by omega
      rw [List.take_of_length_le (by omega)]
      rw [show yrs A = .fs 3 l.length (A.flatMap encM) by unfold yrs; rw [hAl]]
      have hRf : (A.flatMap encM).length = l.length * 3 := by rw [flat_len encM_len, hAl]
      conv => whnf
      repeat' (first | ((first | refine zs1 ?_ | refine zs2 ?_ | refine zs3 ?_ | refine zs4 ?_ | refine zs5 ?_); conv => whnf) | ((first | apply zi1 | apply zi2 | apply zi3 | apply zi4 | apply zi5) <;> intro _ <;> first | (exfalso; omega) | contradiction | (conv => whnf)))
      refine VOut.data 1 [(0, A.flatMap encM)] [] rfl zf (by exact FmAll.nil) zw
end Go.Proofs.YtccpfempgmkmbaaGreat

open Go.Vm
open Riv
namespace Go.Proofs.YtccpfempgmkmbaaGreat
set_option maxRecDepth 20000
set_option maxHeartbeats 4000000

def wOf (l : List Mp) : Nat := (l.headD mp0).w.toNat
theorem wOf_ok {W H : Nat} {l : List Mp} (o : YOk W H l) : wOf l = W := by
  have h := o.get (y := 0) (by have := o.n; omega)
  have e : l.headD mp0 = l.getD 0 mp0 := by cases l <;> rfl
  unfold wOf
  rw [e, h.2.1, Int.toNat_natCast]
def rlE (l : List Mp) (slow : Int) : Int := if chkY l = 0 then (if 0 ≤ slow ∧ slow ≤ 144 then 0 else 4) else chkY l
def lwA (l : List Mp) (slow : Int) : List Mp := if rlE l slow = 0 then lawY (wOf l) l slow else []
theorem vc_ruled (l : List Mp) (slow : Int) (h : Hp) (hl : l.length ≤ 4000000) (hc : ∀ m ∈ l, m.c.length ≤ 4000000) : VC Tryz.prog 13 [yrs l, I slow] h (.tuple [yrs (lwA l slow), I (rlE l slow)]) h := by
  have c := fun h => vc_CheckYears l h hl hc
  obtain ⟨E, hE⟩ : ∃ E, E = rlE l slow := ⟨_, rfl⟩
  obtain ⟨R, hR⟩ : ∃ R, R = lwA l slow := ⟨_, rfl⟩
  rw [← hE, ← hR]
  unfold lwA at hR
  rw [← hE] at hR
  unfold rlE at hE
  by_cases h0 : chkY l = 0
  · rw [if_pos h0] at hE
    rw [h0] at c
    obtain ⟨W, H, o⟩ := chkY_YOk h0
    by_cases h1 : 0 ≤ slow ∧ slow ≤ 144
    · rw [if_pos h1] at hE
      subst hE
      rw [if_pos rfl, wOf_ok o] at hR
      have cL := fun h => vc_law l slow h o
      rw [← hR] at cL
      refine VC.body Tryz.func13 rfl Tryz.ntmps13 Tryz.call13 (h.grows_refl) rfl ?_; conv => whnf
      repeat' (first | ((first | refine zs1 ?_ | refine zs2 ?_ | refine zs3 ?_ | refine zs4 ?_ | refine zs5 ?_); conv => whnf) | ((first | apply zi1 | apply zi2 | apply zi3 | apply zi4 | apply zi5) <;> intro _ <;> first | (exfalso; omega) | contradiction | (conv => whnf)) | (refine VCall.intro (c _) ?_; conv => whnf) | (refine VCall.intro (vc_from _ _ _ _) ?_; conv => whnf) | (refine VCall.intro (cL _) ?_; conv => whnf))
      exact VOut.same rfl
    · rw [if_neg h1] at hE
      subst hE
      rw [if_neg (by simp)] at hR
      subst hR
      refine VC.body Tryz.func13 rfl Tryz.ntmps13 Tryz.call13 (h.grows_refl) rfl ?_; conv => whnf
      repeat' (first | ((first | refine zs1 ?_ | refine zs2 ?_ | refine zs3 ?_ | refine zs4 ?_ | refine zs5 ?_); conv => whnf) | ((first | apply zi1 | apply zi2 | apply zi3 | apply zi4 | apply zi5) <;> intro _ <;> first | (exfalso; omega) | contradiction | (conv => whnf)) | (refine VCall.intro (c _) ?_; conv => whnf) | (refine VCall.intro (vc_from _ _ _ _) ?_; conv => whnf))
      refine VOut.data 0 [] [] rfl zf (by exact FmAll.nil) zw
  · rw [if_neg h0] at hE
    rw [← hE] at c h0
    rw [if_neg h0] at hR
    subst hR
    clear hE
    refine VC.body Tryz.func13 rfl Tryz.ntmps13 Tryz.call13 (h.grows_refl) rfl ?_; conv => whnf
    repeat' (first | ((first | refine zs1 ?_ | refine zs2 ?_ | refine zs3 ?_ | refine zs4 ?_ | refine zs5 ?_); conv => whnf) | ((first | apply zi1 | apply zi2 | apply zi3 | apply zi4 | apply zi5) <;> intro _ <;> first | (exfalso; omega) | contradiction | (conv => whnf)) | (refine VCall.intro (c _) ?_; conv => whnf))
    refine VOut.data 0 [] [] rfl zf (by exact FmAll.nil) zw
theorem vc_Law (l : List Mp) (slow : Int) (h : Hp) (hl : l.length ≤ 4000000) (hc : ∀ m ∈ l, m.c.length ≤ 4000000) : VC Tryz.prog 8 [yrs l, I slow] h (.tuple [yrs (lwA l slow), I (rlE l slow)]) h := by
  have c := fun h => vc_ruled l slow h hl hc
  generalize lwA l slow = R at *
  generalize rlE l slow = E at *
  refine VC.body Tryz.func8 rfl Tryz.ntmps8 Tryz.call8 (h.grows_refl) rfl ?_; conv => whnf
  repeat' (first | ((first | refine zs1 ?_ | refine zs2 ?_ | refine zs3 ?_ | refine zs4 ?_ | refine zs5 ?_); conv => whnf) | ((first | apply zi1 | apply zi2 | apply zi3 | apply zi4 | apply zi5) <;> intro _ <;> first | (exfalso; omega) | contradiction | (conv => whnf)) | (refine VCall.intro (c _) ?_; conv => whnf))
  exact VOut.same rfl
end Go.Proofs.YtccpfempgmkmbaaGreat

namespace Go.Proofs.YtccpfempgmkmbaaGreat
open Go.Shelf
def ibRen : Ren := ⟨fun | 137 => 41 | 217 => 64 | 266 => 82 | n => n, fun n => n, fun n => n⟩
theorem ibLays : Lays.n137 Tryz.prog ibRen := {
  mixed := by kernel_rfl
  f137 := by kernel_rfl
  f217 := by kernel_rfl
  f266 := by kernel_rfl
  t3 := by kernel_rfl
  a3 := fun _ => by kernel_rfl
  z3 := fun _ => by kernel_rfl
  v3 := fun _ => by kernel_rfl
  t5 := by kernel_rfl
  a5 := fun _ => by kernel_rfl
  z5 := fun _ => by kernel_rfl
  v5 := fun _ => by kernel_rfl
  t9 := by kernel_rfl
  a9 := fun _ => by kernel_rfl
  z9 := fun _ => by kernel_rfl
  v9 := fun _ => by kernel_rfl
}
def wei : ByteArray := ⟨#[46, 87, 69, 73]⟩
def knd (c : Int) : Int := Lib.indexByte wei.data.toList c.toNat.toUInt8
theorem vc_IndexByte (c : Int) (h : Go.Vm.Hp) : Go.Vm.VC Tryz.prog 41 [.lit (.string wei), .s (.int .u8 c)] h (Go.Vm.I (knd c)) h := by
  refine ⟨Tryz.call41, h.grows_refl, fun σ w xs hr hxs => ?_⟩
  rw [callsIn_wide]
  obtain ⟨x, y, rfl, hx, hy⟩ := Go.Vm.VRs_two hxs
  simp only [Go.Vm.VR, Go.Vm.S.val] at hx hy
  subst hx hy
  have := Any.strings_IndexByte ibLays wei c w
  refine this.mono ?_
  rintro e w' ⟨rfl, rfl⟩
  exact ⟨σ, _, rfl, rfl, hr, Go.Vm.ExtK.refl _ _ _ _⟩
end Go.Proofs.YtccpfempgmkmbaaGreat

open Go.Vm
open Riv
namespace Go.Proofs.YtccpfempgmkmbaaGreat
set_option maxRecDepth 20000
set_option maxHeartbeats 4000000

def encStr (s : ByteArray) : List D := [.lit (.string s)]
theorem encStr_len (s : ByteArray) : (encStr s).length = 1 := rfl
def strs (l : List ByteArray) : V := .fs 1 l.length (l.flatMap encStr)
def dwC (s : ByteArray) (k : Nat) : List Int := (List.range k).map fun k => knd (strAt s k)
def dwA (l : List ByteArray) : List Int := l.flatMap fun s => dwC s s.size
def dwW (l : List ByteArray) : Nat := (l.getLast?.map ByteArray.size).getD 0
def dwM (l : List ByteArray) : Mp := ⟨dwW l, l.length, dwA l⟩
theorem dwC_len (s : ByteArray) (k : Nat) : (dwC s k).length = k := by simp [dwC]
theorem dwC_step (s : ByteArray) (k : Nat) : dwC s (k + 1) = dwC s k ++ [knd (strAt s k)] := by
  unfold dwC; rw [List.range_succ, List.map_append]; rfl
theorem dwA_step {l : List ByteArray} {i : Nat} {s : ByteArray} (h : l[i]? = some s) : dwA (l.take (i + 1)) = dwA (l.take i) ++ dwC s s.size := by
  unfold dwA; rw [List.take_add_one, h, List.flatMap_append]; simp
theorem dwW_step {l : List ByteArray} {i : Nat} {s : ByteArray} (h : l[i]? = some s) : dwW (l.take (i + 1)) = s.size := by
  unfold dwW; rw [List.take_add_one, h, List.getLast?_append]; rfl
theorem dwA_len {l : List ByteArray} (hb : ∀ s ∈ l, s.size ≤ 1000) : ∀ i, i ≤ l.length → (dwA (l.take i)).length ≤ 1000 * i
  | 0, _ => by simp [dwA]
  | i + 1, h => by
    have hi : l[i]? = some l[i] := List.getElem?_eq_getElem (by omega)
    have := hb _ (List.mem_of_getElem? hi)
    have h2 := dwA_len hb i (by omega)
    rw [dwA_step hi, List.length_append, dwC_len]; omega
theorem VTo.litS {c : TCtx} {x : Value} : VTo c (.lit x) (.lit x) := by simp only [VTo]
theorem zvS {p : Prop} (h : p := by repeat' (first | refine FrTo.node ?_ ?_ ?_ | refine FrTo.none ?_ ?_ | exact FrTo.leaf | exact VTo.undef | exact VTo.litS | exact VTo.sc (by first | rfl | (congr 1; omega)) | exact VTo.fs | exact VTo.ptr rfl | exact VTo.gl rfl | exact VTo.nilslice)) : p := h
theorem vc_Drawn (l : List ByteArray) (h : Hp) (hn : l.length ≤ 1000) (hb : ∀ s ∈ l, s.size ≤ 1000) : VC Tryz.prog 21 [strs l] h (vM (dwM l)) h := by
  have hal := fun i hi => dwA_len hb i hi
  have h00 : dwA (l.take 0) = [] := rfl
  have h01 : dwW (l.take 0) = 0 := rfl
  have hst := fun i s (hs : l[i]? = some s) => dwA_step hs
  have hsw := fun i s (hs : l[i]? = some s) => dwW_step hs
  have hfin : dwM l = ⟨dwW (l.take l.length), l.length, dwA (l.take l.length)⟩ := by rw [List.take_length]; rfl
  rw [hfin]
  refine VC.body Tryz.func21 rfl Tryz.ntmps21 Tryz.call21 (h.grows_refl) rfl ?_
  conv => whnf
  repeat' (first | ((first | refine zs1 ?_ | refine zs2 ?_ | refine zs3 ?_ | refine zs4 ?_ | refine zs5 ?_); conv => whnf) | ((first | apply zi1 | apply zi2 | apply zi3 | apply zi4 | apply zi5) <;> intro _ <;> conv => whnf))
  refine VCode.lpC (outer := h.lift) (marks := []) 99 (fun i : Nat => [(2, .ptr (.loc 0) 0), (3, .ptr (.loc 1) 0), (10, strs l), (11, I l.length), (12, I i)]) (fun i => [.cells true [I 0, I 0, .nilslice], .cells true [I (dwW (l.take i)), I l.length, .gl (.loc 2) 1 (dwA (l.take i)).length], .flat true ((dwA (l.take i)).flatMap Vm.encI)]) (fun i => i ≤ l.length) (fun i => l.length - i) 0 (Nat.zero_le _) ?_ ?_
  · rw [h00, h01]
    conv => whnf
    refine Retell.turn ⟨[0,1,2], 2, [], []⟩ (TurnOk.mk' _ _ [] [] (OutOk.lift _) rfl (by decide) zb trivial trivial rfl) zw zm
  rintro i hi
  rcases Nat.lt_or_ge i l.length with h4 | h4
  · obtain ⟨s, hs⟩ : ∃ s, l[i]? = some s := ⟨_, List.getElem?_eq_getElem h4⟩
    have hsb := hb s (List.mem_of_getElem? hs)
    have hst := hst i s hs
    have hsw := hsw i s hs
    have hal := hal i hi
    have hC0 : dwC s 0 = [] := rfl
    have hCs := dwC_step s
    have hCl := dwC_len s
    generalize dwA (l.take i) = A at *
    generalize dwW (l.take i) = w0 at *
    conv => whnf
    repeat' (first | ((first | refine zs1 ?_ | refine zs2 ?_ | refine zs3 ?_ | refine zs4 ?_ | refine zs5 ?_); conv => whnf) | ((first | apply zi1 | apply zi2 | apply zi3 | apply zi4 | apply zi5) <;> intro _ <;> first | (exfalso; omega) | contradiction | (conv => whnf)) | (refine VAny.ix encStr_len i rfl rfl hs ?_; conv => whnf))
    refine VCode.lpC (outer := h.lift) (marks := []) 99 (fun k : Nat => [(2, .ptr (.loc 0) 0), (3, .ptr (.loc 1) 0), (10, strs l), (11, I l.length), (12, I i), (5, .lit (.string s)), (20, I s.size), (21, I k)]) (fun k => [.cells true [I 0, I 0, .nilslice], .cells true [I s.size, I l.length, .gl (.loc 2) 1 (A ++ dwC s k).length], .flat true ((A ++ dwC s k).flatMap Vm.encI)]) (fun k => k ≤ s.size) (fun k => s.size - k) 0 (Nat.zero_le _) ?_ ?_
    · rw [hC0, List.append_nil]
      conv => whnf
      refine Retell.turn ⟨[0, 1, 2], 9, [], []⟩ (TurnOk.mk' _ _ [] [] (OutOk.lift _) rfl (by decide) zb trivial trivial rfl) zvS zm
    rintro k hk
    rcases Nat.lt_or_ge k s.size with h5 | h5
    · have hCs := hCs k
      have hCl := hCl k
      have cI := fun h => vc_IndexByte (strAt s k) h
      have hTl : (A ++ dwC s k).length = A.length + k := by rw [List.length_append, hCl]
      have hTn : A ++ dwC s (k + 1) = (A ++ dwC s k) ++ [knd (strAt s k)] := by rw [hCs, List.append_assoc]
      generalize A ++ dwC s k = T at *
      have hk2 : ((k : Int)).toNat = k := Int.toNat_natCast k
      conv => whnf
      repeat' (first | ((first | refine zs1 ?_ | refine zs2 ?_ | refine zs3 ?_ | refine zs4 ?_ | refine zs5 ?_); conv => whnf) | ((first | apply zi1 | apply zi2 | apply zi3 | apply zi4 | apply zi5) <;> intro _ <;> conv => whnf))
      all_goals try (exfalso; omega)
      refine zs6 [(1, 5)] ?_
      conv => whnf
      repeat' (first | ((first | refine zs1 ?_ | refine zs2 ?_ | refine zs3 ?_ | refine zs4 ?_ | refine zs5 ?_); conv => whnf) | ((first | apply zi1 | apply zi2 | apply zi3 | apply zi4 | apply zi5) <;> intro _ <;> first | (exfalso; omega) | contradiction | (conv => whnf)) | (refine VCall.intro (cI _) ?_; conv => whnf))
      refine VMem.app1 (l := T) (knd (strAt s k)) Vm.encI_len rfl rfl rfl rfl rfl (by omega) ?_
      conv => whnf
      repeat' (first | ((first | refine zs1 ?_ | refine zs2 ?_ | refine zs3 ?_ | refine zs4 ?_ | refine zs5 ?_); conv => whnf) | ((first | apply zi1 | apply zi2 | apply zi3 | apply zi4 | apply zi5) <;> intro _ <;> first | (exfalso; omega) | contradiction | (conv => whnf)))
      refine LEnd.intro (k + 1) (by omega) (by omega) ?_
      have hTe : T.length + 1 = (T ++ [knd (strAt s k)]).length := by rw [List.length_append]; rfl
      rw [hTn, hTe]
      generalize knd (strAt s k) = z
      conv => whnf
      refine Retell.turn ⟨[0, 1, 4], 9, [], []⟩ (TurnOk.mk' _ _ [] [] (OutOk.lift _) rfl (by decide) zb trivial trivial rfl) zvS zm
    · obtain rfl : k = s.size := by omega
      rw [← hst]
      conv => whnf
      repeat' (first | ((first | refine zs1 ?_ | refine zs2 ?_ | refine zs3 ?_ | refine zs4 ?_ | refine zs5 ?_); conv => whnf) | ((first | apply zi1 | apply zi2 | apply zi3 | apply zi4 | apply zi5) <;> intro _ <;> first | (exfalso; omega) | contradiction | (conv => whnf)))
      refine LEnd.intro (i + 1) (by omega) (by omega) ?_
      rw [hsw]
      conv => whnf
      refine Retell.turn ⟨[0,1,2], 9, [], []⟩ (TurnOk.mk' _ _ [] [] (OutOk.lift _) rfl (by decide) zb trivial trivial rfl) zw zm
  · obtain rfl : i = l.length := by omega
    generalize dwA (l.take l.length) = A at *
    generalize dwW (l.take l.length) = w0 at *
    conv => whnf
    repeat' (first | ((first | refine zs1 ?_ | refine zs2 ?_ | refine zs3 ?_ | refine zs4 ?_ | refine zs5 ?_); conv => whnf) | ((first | apply zi1 | apply zi2 | apply zi3 | apply zi4 | apply zi5) <;> intro _ <;> first | (exfalso; omega) | contradiction | (conv => whnf)))
    refine VOut.data 9 [(2, A.flatMap Vm.encI)] [] rfl zf (by exact FmAll.nil) zw
end Go.Proofs.YtccpfempgmkmbaaGreat

open Go.Vm
namespace Go.Proofs.YtccpfempgmkmbaaGreat
set_option maxRecDepth 20000
set_option maxHeartbeats 4000000

abbrev DU (n : Int) : D := .s (.int .u32 n)
def encU (n : Int) : List D := [.s (.int .u8 n)]
theorem encU_len (n : Int) : (encU n).length = 1 := rfl
def bytes (l : List Int) : V := .fs 1 l.length (l.flatMap encU)
def deckD (bs : List Int) (n s : Int) : List D := [.sl 1 bs.length (bs.flatMap encU), DI n, DU s]
theorem VOut.setS {h : Hp} {loc : List Blk} {i : Vm.Id} {b0 : Blk} {l : List D} {rw : Bool} {x : S} {L : Nat} (hL : Nat.ble loc.length L = true) (hb : h.get i = some b0) : VOut h ⟨outW h.lift i (.flat rw l), loc⟩ (.s x) (.s x) (h.set i (.flat rw l)) := by
  have hd : ∀ p ∈ [(i, Blk.flat rw l)], h.get p.1 ≠ none := by
    intro p hp
    simp only [List.mem_cons, List.not_mem_nil, or_false] at hp
    subst hp; simp only; rw [hb]; simp
  have := VOut.upd (loc := loc) (r1 := .s x) (r := .s x) [(i, .flat rw l)] [] [] L hL hd (by simp) rfl (by intro k b hk; simp at hk) (fun σ x hx => hx) (outer := outW h.lift i (.flat rw l)) rfl
  have he : (h.sets [(i, Blk.flat rw l)]).pushes [] = h.set i (.flat rw l) := by simp [Hp.sets, Hp.pushes]
  rw [he] at this
  exact this
theorem set_same {h : Hp} {i : Vm.Id} {b : Blk} (hb : h.get i = some b) : h.set i b = h := by
  cases i with
  | out i =>
    have hb : h.outer i = some b := hb
    obtain ⟨o, l⟩ := h
    simp only [Hp.set]
    congr 1
    funext j
    split
    · rename_i e; rw [e]; exact hb.symm
    · rfl
  | loc k =>
    have hb : h.loc[k]? = some b := hb
    obtain ⟨o, l⟩ := h
    simp only [Hp.set]
    congr 1
    obtain ⟨h1, h2⟩ := List.getElem?_eq_some_iff.1 hb
    rw [← h2]; exact List.set_getElem_self h1
theorem VOut.set2 {h : Hp} {loc : List Blk} {i : Vm.Id} {b0 b1 : Blk} {l : List D} {rw : Bool} {x : S} (hb : h.get i = some b0) : VOut h ⟨outW (outW h.lift i b1) i (.flat rw l), loc⟩ (.s x) (.s x) (h.set i (.flat rw l)) := by
  rw [outW_same]
  exact VOut.setS (L := loc.length) (by simp) hb
theorem vc_Draw0 (bs : List Int) (n s k : Int) (i : Vm.Id) (h : Hp) (hb : h.get i = some (.flat true (deckD bs n s))) (hk : k ≤ 1 ∨ bs = []) : VC Tryz.prog 12 [.ptr i 0, I k] h (I 0) (h.set i (.flat true (deckD bs n s))) := by
  rw [set_same hb]
  have hl : k ≤ 1 ∨ bs.length = 0 := by rcases hk with h1 | h1; exact .inl h1; exact .inr (by rw [h1]; rfl)
  refine VC.body Tryz.func12 rfl Tryz.ntmps12 Tryz.call12 (h.grows_refl) rfl ?_; conv => whnf
  repeat' (first | ((first | refine zs1 ?_ | refine zs2 ?_ | refine zs3 ?_ | refine zs4 ?_ | refine zs5 ?_); conv => whnf) | ((first | apply zi1 | apply zi2 | apply zi3 | apply zi4 | apply zi5) <;> intro _ <;> conv => whnf) | (refine VLd.flat rfl rfl (get_out hb _) rfl ?_; conv => whnf))
  · exact VOut.same rfl
  · exact VOut.same rfl
  · exfalso; omega
def dRd (bs : List Int) (N : Nat) : Int := IntKind.u32.wrap (IntKind.i64.wrap ((N : Int).tdiv (bs.length : Int)))
def dkS (bs : List Int) (N : Nat) (s c : Int) : Int := (IntKind.u32.wrap (IntKind.u32.wrap (IntKind.u32.wrap (s * 37) + IntKind.u32.wrap c) + IntKind.u32.wrap (101 * dRd bs N))).tmod 65521
def dR (bs : List Int) (N : Nat) (s k c : Int) : Int := if k ≤ 256 ∧ dRd bs N = 0 then (IntKind.i64.wrap (IntKind.u32.wrap c)).tmod k else (IntKind.i64.wrap (IntKind.u32.wrap (IntKind.u32.wrap (dkS bs N s c * 256) + IntKind.u32.wrap c))).tmod k
theorem u32_bd (n : Int) : 0 ≤ IntKind.u32.wrap n ∧ IntKind.u32.wrap n < 4294967296 := by
  unfold IntKind.wrap; simp [IntKind.bits, IntKind.signed]; omega
theorem tmod_bd {a k : Int} (ha : 0 ≤ a) (hk : 0 < k) : 0 ≤ a.tmod k ∧ a.tmod k < k := by
  rw [Int.tmod_eq_emod_of_nonneg ha]
  exact ⟨Int.emod_nonneg _ (by omega), Int.emod_lt_of_pos _ hk⟩
theorem dR_bd (bs : List Int) (N : Nat) (s c : Int) {k : Int} (hk : 0 < k) : 0 ≤ dR bs N s k c ∧ dR bs N s k c < k := by
  unfold dR
  split
  · have := u32_bd c
    rw [wrap_i64 (by omega)]
    exact tmod_bd this.1 hk
  · have := u32_bd (IntKind.u32.wrap (dkS bs N s c * 256) + IntKind.u32.wrap c)
    rw [wrap_i64 (by omega)]
    exact tmod_bd this.1 hk
theorem vc_Draw1 (bs : List Int) (N : Nat) (s k c : Int) (i : Vm.Id) (h : Hp) (hb : h.get i = some (.flat true (deckD bs N s))) (hk : 1 < k) (hc : bs[N % bs.length]? = some c) (hN : N ≤ 4000000000) :
    VC Tryz.prog 12 [.ptr i 0, I k] h (I (dR bs N s k c)) (h.set i (.flat true (deckD bs ((N : Int) + 1) (dkS bs N s c)))) := by
  have hlen : 0 < bs.length := by
    have := (List.getElem?_eq_some_iff.1 hc).1
    omega
  have hneB : ((bs.length : Int) != 0) = true := by rw [bne_iff_ne]; omega
  obtain ⟨R, hR⟩ : ∃ R, R = dR bs N s k c := ⟨_, rfl⟩
  rw [← hR]
  unfold dR at hR
  refine VC.body Tryz.func12 rfl Tryz.ntmps12 Tryz.call12 (h.grows_set _ _) rfl ?_
  conv => whnf
  repeat' (first | ((first | refine zs1 ?_ | refine zs2 ?_ | refine zs3 ?_ | refine zs4 ?_ | refine zs5 ?_ | refine zs6 [] ?_); conv => whnf) | ((first | apply zi1 | apply zi2 | apply zi3 | apply zi4 | apply zi5) <;> intro _ <;> conv => whnf) | (refine VLd.flat rfl rfl (get_out hb _) rfl ?_; conv => whnf) | (refine VAny.ix encU_len (N % bs.length) (by rfl) rfl hc ?_; conv => whnf) | (refine VLd.flat rfl rfl (outW_get _ _ _ _) rfl ?_; conv => whnf) | (refine VMem.st1 rfl rfl rfl (get_out hb _) rfl ?_; conv => whnf) | (refine VMem.st1 rfl rfl rfl (outW_get _ _ _ _) rfl ?_; conv => whnf) | (refine VArith.wr ?_; conv => whnf) | (refine VNeed.intro hneB ?_; conv => whnf))
  · exfalso; omega
  · exfalso; omega
  · rename_i h1 h2
    have h2 : dRd bs N = 0 := h2
    rw [if_pos ⟨h1, h2⟩] at hR
    subst hR
    refine VOut.set2 hb
  · rename_i h1 h2
    have h2 : ¬ dRd bs N = 0 := h2
    rw [if_neg (fun h => h2 h.2)] at hR
    subst hR
    refine VOut.set2 hb
  · rename_i h1
    rw [if_neg (fun h => h1 h.1)] at hR
    subst hR
    refine VOut.set2 hb
def dNx (bs : List Int) (d : Nat × Int) (k : Int) : Int × (Nat × Int) :=
  if k ≤ 1 ∨ bs = [] then (0, d) else (dR bs d.1 d.2 k (bs.getD (d.1 % bs.length) 0), (d.1 + 1, dkS bs d.1 d.2 (bs.getD (d.1 % bs.length) 0)))
def deckB (bs : List Int) (d : Nat × Int) : Blk := .flat true (deckD bs d.1 d.2)
theorem dNx_bd (bs : List Int) (d : Nat × Int) (k : Int) : 0 ≤ (dNx bs d k).1 ∧ ((dNx bs d k).1 = 0 ∨ (dNx bs d k).1 < k) ∧ (dNx bs d k).2.1 ≤ d.1 + 1 := by
  unfold dNx
  split
  · exact ⟨Int.le_refl _, .inl rfl, by simp only; omega⟩
  · rename_i h
    obtain ⟨q1, q2⟩ := dR_bd bs d.1 d.2 (bs.getD (d.1 % bs.length) 0) (k := k) (by omega)
    exact ⟨q1, .inr q2, Nat.le_refl _⟩
theorem vc_draw (bs : List Int) (d : Nat × Int) (k : Int) (i : Vm.Id) (h : Hp) (hN : d.1 ≤ 4000000000) (hb : h.get i = some (deckB bs d)) : VC Tryz.prog 12 [.ptr i 0, I k] h (I (dNx bs d k).1) (h.set i (deckB bs (dNx bs d k).2)) := by
  unfold dNx deckB at *
  split
  · rename_i hk; exact vc_Draw0 bs d.1 d.2 k i h hb hk
  · rename_i hk
    have hlen := List.length_pos_iff.2 (fun h => hk (.inr h))
    have hc : bs[d.1 % bs.length]? = some (bs.getD (d.1 % bs.length) 0) := by simp [List.getElem?_eq_getElem (Nat.mod_lt d.1 hlen)]
    exact vc_Draw1 bs d.1 d.2 k _ i h hb (by omega) hc hN
theorem vc_between (bs : List Int) (d : Nat × Int) (a b : Int) (i : Vm.Id) (h : Hp) (hN : d.1 ≤ 4000000000) (ha : -1000000 ≤ a ∧ a ≤ 1000000) (hb : -1000000 ≤ b ∧ b ≤ 1000000) (hd : h.get i = some (deckB bs d)) : VC Tryz.prog 5 [.ptr i 0, I a, I b] h (I (a + (dNx bs d (b - a + 1)).1)) (h.set i (deckB bs (dNx bs d (b - a + 1)).2)) := by
  have hbd := dNx_bd bs d (b - a + 1)
  have hD := fun i h hh => vc_draw bs d (b - a + 1) i h hN hh
  generalize dNx bs d (b - a + 1) = x at hbd hD
  refine VC.body Tryz.func5 rfl Tryz.ntmps5 Tryz.call5 (h.grows_set _ _) rfl ?_
  conv => whnf
  repeat' (first | ((first | refine zs1 ?_ | refine zs2 ?_ | refine zs3 ?_ | refine zs4 ?_ | refine zs5 ?_ | refine zs6 [] ?_); conv => whnf) | ((first | apply zi1 | apply zi2 | apply zi3 | apply zi4 | apply zi5) <;> intro _ <;> conv => whnf) | (refine VCall.intro (hD (.out i) _ (get_out hd _)) ?_; conv => whnf))
  exact VOut.setS (L := 0) rfl hd
theorem VOut.ownP {h : Hp} {loc : List Blk} {ds : List D} (j L : Nat) (hL : Nat.ble loc.length L = true) (hj : loc[j]? = some (.flat true ds)) : VOut h ⟨h.lift, loc⟩ (.ptr (.loc j) 0) (.ptr h.fresh 0) (h.push (.flat true ds)) := by
  refine VOut.upd [] [.flat true ds] [j] L hL (by intro p hp; cases hp) (by simp) rfl ?_ ?_ rfl
  · intro k b hk
    cases k with
    | zero => rw [List.getElem?_cons_zero, Option.some.injEq] at hk; subst hk; exact ⟨j, rfl, hj⟩
    | succ k => simp at hk
  · intro σ x hx
    have : (V.ptr h.fresh 0).ren (backR h.loc.length [j] L) = .ptr (.loc j) 0 := by simp [V.ren, backR, Hp.fresh]
    rw [this]; exact hx
theorem vc_Of (bs : List Int) (h : Hp) : VC Tryz.prog 4 [bytes bs] h (.ptr h.fresh 0) (h.push (deckB bs (0, 9))) := by
  refine VC.body Tryz.func4 rfl Tryz.ntmps4 Tryz.call4 (h.grows_push _) rfl ?_
  conv => whnf
  repeat (first | ((first | refine zs1 ?_ | refine zs2 ?_ | refine zs3 ?_ | refine zs4 ?_ | refine zs5 ?_ | refine zs6 [] ?_); conv => whnf))
  exact VOut.ownP 0 1 rfl rfl
end Go.Proofs.YtccpfempgmkmbaaGreat

open Go.Vm
open Riv
namespace Go.Vm
end Go.Vm
namespace Go.Proofs.YtccpfempgmkmbaaGreat
set_option maxRecDepth 20000
set_option maxHeartbeats 4000000

theorem dealt (bs : List Int) : Dealt (dNx bs) :=
  ⟨fun d k => (dNx_bd bs d k).1, fun d k hk => by have := (dNx_bd bs d k).2.1; omega, fun d k => (dNx_bd bs d k).2.2⟩
end Go.Proofs.YtccpfempgmkmbaaGreat

open Go.Vm
open Riv
namespace Go.Proofs.YtccpfempgmkmbaaGreat
set_option maxRecDepth 20000
set_option maxHeartbeats 4000000
section
variable {W H : Nat} {c : List Int}
abbrev mp (W H : Nat) (c : List Int) : Mp := ⟨W, H, c⟩
theorem kO (o : MOk W H c) (h : Hp) : VC Tryz.prog 9 [vM (mp W H c)] h (.tuple [ints (owns c W), I 0]) h := by
  have := vc_Owners (mp W H c) h (by have := MOk.le o; show c.length ≤ _; omega)
  rw [if_pos (chkM_of o), chkM_of o] at this
  exact this
end
end Go.Proofs.YtccpfempgmkmbaaGreat

open Go.Vm
open Riv
namespace Go.Proofs.YtccpfempgmkmbaaGreat
set_option maxRecDepth 20000
set_option maxHeartbeats 4000000

theorem drop_eq_dec {α : Type} [DecidableEq α] {a b : List α} {k : Nat} {x y : α} (hx : a[k]? = some x) (hy : b[k]? = some y) : decide (a.drop k = b.drop k) = (decide (x = y) && decide (a.drop (k + 1) = b.drop (k + 1))) := by
  obtain ⟨h1, rfl⟩ := List.getElem?_eq_some_iff.1 hx
  obtain ⟨h2, rfl⟩ := List.getElem?_eq_some_iff.1 hy
  rw [List.drop_eq_getElem_cons h1, List.drop_eq_getElem_cons h2, Bool.eq_iff_iff, Bool.and_eq_true, decide_eq_true_eq, decide_eq_true_eq, decide_eq_true_eq, List.cons.injEq]
theorem drop_ne {α : Type} [DecidableEq α] {a b : List α} {k : Nat} (h1 : k < a.length) (h2 : b.length ≤ k) : decide (a.drop k = b.drop k) = false := by
  rw [decide_eq_false_iff_not]
  intro hh
  have := congrArg List.length hh
  simp at this; omega
theorem len_dec {α : Type} [DecidableEq α] {a b : List α} (h : a.length ≤ b.length) : ((a.length : Int) == b.length) = decide (a.drop a.length = b.drop a.length) := by
  rw [List.drop_length, Bool.eq_iff_iff, decide_eq_true_eq, beq_iff_eq]
  constructor
  · intro hh; rw [List.drop_of_length_le (by omega)]
  · intro hh
    have := congrArg List.length hh
    simp at this; omega
theorem vc_kequalI (a b : List Int) (h : Hp) (ha : a.length ≤ 4000000) (hb : b.length ≤ 4000000) : VC Tryz.prog 22 [ints a, ints b] h (B (decide (a = b))) h := by
  obtain ⟨E, hE⟩ : ∃ E, E = decide (a = b) := ⟨_, rfl⟩
  rw [← hE]
  refine VC.body Tryz.func22 rfl Tryz.ntmps22 Tryz.call22 (h.grows_refl) rfl ?_; conv => whnf
  refine VCode.lp (fun k : Nat => [(0, ints a), (1, ints b), (4, B false), (7, I a.length), (8, I k)]) (fun _ => []) (fun k => k ≤ a.length ∧ k ≤ b.length ∧ E = decide (a.drop k = b.drop k)) (fun k => a.length - k) 0 ⟨Nat.zero_le _, Nat.zero_le _, hE⟩ ?_ ?_
  · conv => whnf
    refine Retell.turn ⟨[], 0, [], []⟩ (TurnOk.mk' _ _ [] [] (OutOk.lift _) rfl (by decide) zb trivial trivial rfl) zw zm
  · rintro k ⟨h1, h2, h3⟩
    rcases Nat.lt_or_ge k a.length with h4 | h4
    · have hx : a[k]? = some a[k] := List.getElem?_eq_getElem h4
      rcases Nat.lt_or_ge k b.length with h5 | h5
      · have hy : b[k]? = some b[k] := List.getElem?_eq_getElem h5
        rw [drop_eq_dec hx hy] at h3
        generalize a[k] = x at hx h3
        generalize b[k] = y at hy h3
        by_cases hxy : x = y
        · rw [decide_eq_true hxy, Bool.true_and] at h3
          conv => whnf
          repeat' (first | ((first | refine zs1 ?_ | refine zs2 ?_ | refine zs3 ?_ | refine zs4 ?_ | refine zs5 ?_); conv => whnf) | ((first | apply zi1 | apply zi2 | apply zi3 | apply zi4 | apply zi5) <;> intro _ <;> first | (exfalso; omega) | contradiction | (conv => whnf)))
          refine zs6 [] ?_
          conv => whnf
          repeat' (first | ((first | refine zs1 ?_ | refine zs2 ?_ | refine zs3 ?_ | refine zs4 ?_ | refine zs5 ?_); conv => whnf) | ((first | apply zi1 | apply zi2 | apply zi3 | apply zi4 | apply zi5) <;> intro _ <;> first | (exfalso; omega) | contradiction | (conv => whnf)) | (refine VAny.ix Vm.encI_len k rfl rfl hx ?_; conv => whnf) | (refine VAny.ix Vm.encI_len k rfl rfl hy ?_; conv => whnf))
          refine LEnd.intro (k + 1) ⟨by omega, by omega, h3⟩ (by omega) ?_
          conv => whnf
          refine Retell.turn ⟨[], 0, [], []⟩ (TurnOk.mk' _ _ [] [] (OutOk.lift _) rfl (by decide) zb trivial trivial rfl) zw zm
        · rw [decide_eq_false hxy, Bool.false_and] at h3
          subst h3
          conv => whnf
          repeat' (first | ((first | refine zs1 ?_ | refine zs2 ?_ | refine zs3 ?_ | refine zs4 ?_ | refine zs5 ?_); conv => whnf) | ((first | apply zi1 | apply zi2 | apply zi3 | apply zi4 | apply zi5) <;> intro _ <;> first | (exfalso; omega) | contradiction | (conv => whnf)))
          refine zs6 [] ?_
          conv => whnf
          repeat' (first | ((first | refine zs1 ?_ | refine zs2 ?_ | refine zs3 ?_ | refine zs4 ?_ | refine zs5 ?_); conv => whnf) | ((first | apply zi1 | apply zi2 | apply zi3 | apply zi4 | apply zi5) <;> intro _ <;> first | (exfalso; omega) | contradiction | (conv => whnf)) | (refine VAny.ix Vm.encI_len k rfl rfl hx ?_; conv => whnf) | (refine VAny.ix Vm.encI_len k rfl rfl hy ?_; conv => whnf))
          exact VOut.same rfl
      · rw [drop_ne h4 h5] at h3
        subst h3
        conv => whnf
        repeat' (first | ((first | refine zs1 ?_ | refine zs2 ?_ | refine zs3 ?_ | refine zs4 ?_ | refine zs5 ?_); conv => whnf) | ((first | apply zi1 | apply zi2 | apply zi3 | apply zi4 | apply zi5) <;> intro _ <;> first | (exfalso; omega) | contradiction | (conv => whnf)))
        refine zs6 [] ?_
        conv => whnf
        repeat' (first | ((first | refine zs1 ?_ | refine zs2 ?_ | refine zs3 ?_ | refine zs4 ?_ | refine zs5 ?_); conv => whnf) | ((first | apply zi1 | apply zi2 | apply zi3 | apply zi4 | apply zi5) <;> intro _ <;> first | (exfalso; omega) | contradiction | (conv => whnf)))
        exact VOut.same rfl
    · have hk : k = a.length := by omega
      rw [hk, ← len_dec (by omega)] at h3
      rw [h3, hk]
      conv => whnf
      repeat' (first | ((first | refine zs1 ?_ | refine zs2 ?_ | refine zs3 ?_ | refine zs4 ?_ | refine zs5 ?_); conv => whnf) | ((first | apply zi1 | apply zi2 | apply zi3 | apply zi4 | apply zi5) <;> intro _ <;> first | (exfalso; omega) | contradiction | (conv => whnf)))
      exact VOut.same rfl
/-! ### Depths -/
def m0B : List Bool := List.replicate 100 false
def deL (W : Nat) (o : List Int) : List Int := (arR (opE o W o.length).1 W (opE o W o.length).2 (List.replicate (opE o W o.length).2 0, List.replicate (opE o W o.length).2 (-1), m0B) (opE o W o.length).2).1
theorem vc_Depths (W : Nat) (o : List Int) (h : Hp) (e : EOk W o) : VC Tryz.prog 19 [vE W o] h (.tuple [ints (deL W o), I 0]) h := by
  have hn := e.n
  obtain ⟨h1, h2⟩ := opE_ok (W := W) e.w e.m o.length (Nat.le_refl _)
  have c := fun h => vc_eopened W o h e
  have em : ms0 = m0B.map DB := by unfold ms0 m0B; rw [List.map_replicate]
  rw [em] at c
  have c2 := fun wI h hw => vc_around W o (opE o W o.length).1 (opE o W o.length).2 m0B wI h e h1 (by unfold m0B; exact List.length_replicate) hw (by omega)
  unfold deL
  generalize (opE o W o.length).1 = R at *
  generalize (opE o W o.length).2 = m at *
  generalize arR R W m (List.replicate m 0, List.replicate m (-1), m0B) m = s at *
  obtain ⟨d, a, M⟩ := s
  dsimp only at *
  unfold vE at *
  refine VC.body Tryz.func19 rfl Tryz.ntmps19 Tryz.call19 (h.grows_refl) rfl ?_; conv => whnf
  repeat' (first | ((first | refine zs1 ?_ | refine zs2 ?_ | refine zs3 ?_ | refine zs4 ?_ | refine zs5 ?_); conv => whnf) | ((first | apply zi1 | apply zi2 | apply zi3 | apply zi4 | apply zi5) <;> intro _ <;> first | (exfalso; omega) | contradiction | (conv => whnf)) | (refine VCall.intro (c _) ?_; conv => whnf) | (refine VCall.intro (c2 _ _ rfl) ?_; conv => whnf))
  exact VOut.same rfl
/-! ### The examples -/
def psR : List Int := [6, 7, 8, 11, 13, 16, 17, 18]
def rgL (k : Nat) : List Int := (psR.take k).foldl (fun l p => l.set p.toNat 1) (List.replicate 25 0)
def rgE : List Int := (rgL 8).set 7 1
theorem rgL_step {k : Nat} {x : Int} (h : psR[k]? = some x) : rgL (k + 1) = (rgL k).set x.toNat 1 := by
  unfold rgL
  rw [List.take_add_one, h, List.foldl_append]; rfl
theorem rgL_len : ∀ k, (rgL k).length = 25 := by
  intro k
  unfold rgL
  generalize psR.take k = l
  have : ∀ (l m : List Int), (l.foldl (fun l p => l.set p.toNat 1) m).length = m.length := by
    intro l
    induction l with
    | nil => intro m; rfl
    | cons a l ih => intro m; rw [List.foldl_cons, ih, List.length_set]
  rw [this]; rfl
theorem psR_bd : ∀ x ∈ psR, 0 ≤ x ∧ x < 25 := by decide
theorem vc_Ring (h : Hp) : VC Tryz.prog 20 [I 1] h (vE 5 rgE) h := by
  have hs := fun k x (hx : psR[k]? = some x) => rgL_step hx
  have hl := rgL_len
  have h0 : rgL 0 = List.replicate 25 0 := rfl
  have hp := psR_bd
  have hpl : psR.length = 8 := rfl
  unfold rgE vE
  obtain ⟨pl, hpe⟩ : ∃ p, p = psR := ⟨_, rfl⟩
  rw [← hpe] at hp hpl hs
  generalize rgL = G at *
  refine VC.bodyC 99 Tryz.func20 rfl Tryz.ntmps20 Tryz.call20 (h.grows_refl) rfl ?_
  conv => whnf
  repeat' (first | ((first | refine zs1 ?_ | refine zs2 ?_ | refine zs3 ?_ | refine zs4 ?_ | refine zs5 ?_); conv => whnf) | ((first | apply zi1 | apply zi2 | apply zi3 | apply zi4 | apply zi5) <;> intro _ <;> first | (exfalso; omega) | contradiction | (conv => whnf)) | (refine VMem.make (n := 25) (0 : Int) Vm.encI_len rfl rfl rfl rfl rfl rfl (by omega) ?_; conv => whnf))
  refine VCode.lpC (outer := h.lift) (marks := []) 99 (fun k : Nat => [(0, I 1), (2, .ptr (.loc 0) 0), (3, .ptr (.loc 1) 0), (8, ints pl), (9, I 8), (10, I k)]) (fun k => [.flat true [DI 0, .nilslice], .cells true [I 5, .gl (.loc 2) 1 25], .flat true ((G k).flatMap Vm.encI)]) (fun k => k ≤ 8) (fun k => 8 - k) 0 (by omega) ?_ ?_
  · rw [h0, hpe]
    conv => whnf
    refine Retell.turn ⟨[0, 2, 1], 9, [(3, psR.flatMap Vm.encI)], []⟩ (TurnOk.mk' _ _ [(3, psR.flatMap Vm.encI)] [] (OutOk.lift _) rfl (by decide) zb zf trivial rfl) zw zm
  · intro k hk
    rcases Nat.lt_or_ge k 8 with h3 | h3
    · have hx : pl[k]? = some pl[k] := List.getElem?_eq_getElem (by omega)
      have hb := hp _ (List.getElem_mem (by omega : k < pl.length))
      have hst := hs k _ hx
      generalize pl[k] = x at *
      have hg : (G k)[x.toNat]? = some (at0 (G k) x.toNat) := at0_get (by rw [hl]; omega)
      generalize at0 (G k) x.toNat = y at *
      generalize G k = L at *
      conv => whnf
      repeat' (first | ((first | refine zs1 ?_ | refine zs2 ?_ | refine zs3 ?_ | refine zs4 ?_ | refine zs5 ?_); conv => whnf) | ((first | apply zi1 | apply zi2 | apply zi3 | apply zi4 | apply zi5) <;> intro _ <;> first | (exfalso; omega) | contradiction | (conv => whnf)) | (refine VAny.ix Vm.encI_len k rfl rfl hx ?_; conv => whnf) | (refine VMem.setRec Vm.encI_len x.toNat 0 (1 : Int) rfl rfl rfl hg (by decide) rfl (ix1 _) ?_; conv => whnf))
      refine LEnd.intro (k + 1) (by omega) (by omega) ?_
      rw [hst]
      conv => whnf
      refine Retell.turn ⟨[0,1,2], 9, [], []⟩ (TurnOk.mk' _ _ [] [] (OutOk.lift _) rfl (by decide) zb trivial trivial rfl) zw zm
    · obtain rfl : k = 8 := by omega
      have h8 := hl 8
      have h7 : (G 8)[7]? = some (at0 (G 8) 7) := at0_get (by rw [h8]; omega)
      generalize G 8 = L at *
      generalize at0 L 7 = y at *
      have fl : ((L.set 7 1).flatMap Vm.encI).length = 25 * 1 := by rw [flat_len Vm.encI_len, List.length_set, h8]
      have e25 : ints (L.set 7 1) = .fs 1 25 ((L.set 7 1).flatMap Vm.encI) := by unfold ints; rw [List.length_set, h8]
      rw [e25]
      conv => whnf
      repeat' (first | ((first | refine zs1 ?_ | refine zs2 ?_ | refine zs3 ?_ | refine zs4 ?_ | refine zs5 ?_); conv => whnf) | ((first | apply zi1 | apply zi2 | apply zi3 | apply zi4 | apply zi5) <;> intro _ <;> first | (exfalso; omega) | contradiction | (conv => whnf)) | (refine VMem.setRec Vm.encI_len 7 0 (1 : Int) rfl rfl rfl h7 (by decide) rfl (ix1 _) ?_; conv => whnf))
      refine VOut.data 9 [(2, (L.set 7 1).flatMap Vm.encI)] [] rfl zf (by exact FmAll.nil) zw
theorem vc_point (x y : Int) (h : Hp) : VC Tryz.prog 38 [I x, I y] h (vPt x y) h := by
  unfold vPt
  refine VC.body Tryz.func38 rfl Tryz.ntmps38 Tryz.call38 (h.grows_refl) rfl ?_; conv => whnf
  repeat' (first | ((first | refine zs1 ?_ | refine zs2 ?_ | refine zs3 ?_ | refine zs4 ?_ | refine zs5 ?_); conv => whnf) | ((first | apply zi1 | apply zi2 | apply zi3 | apply zi4 | apply zi5) <;> intro _ <;> first | (exfalso; omega) | contradiction | (conv => whnf)))
  exact VOut.same rfl
def twoC : Cst := ⟨[⟨0, 0, 0⟩, ⟨0, 10, 0⟩, ⟨10, 0, 1⟩], [⟨5, 20, 2, 0⟩]⟩
theorem vc_Two (h : Hp) : VC Tryz.prog 18 [I 0] h (vCt twoC) h := by
  have c := fun x y h => vc_point x y h
  unfold vPt at c
  refine VC.body Tryz.func18 rfl Tryz.ntmps18 Tryz.call18 (h.grows_refl) rfl ?_; conv => whnf
  repeat' (first | ((first | refine zs1 ?_ | refine zs2 ?_ | refine zs3 ?_ | refine zs4 ?_ | refine zs5 ?_); conv => whnf) | ((first | apply zi1 | apply zi2 | apply zi3 | apply zi4 | apply zi5) <;> intro _ <;> first | (exfalso; omega) | contradiction | (conv => whnf)) | (refine VCall.intro (c _ _ _) ?_; conv => whnf))
  refine VOut.data 9 [(1, twoC.bs.flatMap encBs), (2, twoC.ie.flatMap encIe)] [] rfl zf (by exact FmAll.nil) zw
theorem two_ok : COk twoC where
  nb := by decide
  ni := by decide
  b := by
    intro b hb
    simp only [twoC, List.mem_cons, List.not_mem_nil, or_false] at hb
    rcases hb with rfl | rfl | rfl <;> (dsimp only; omega)
  i := by
    intro b hb
    simp only [twoC, List.mem_cons, List.not_mem_nil, or_false] at hb
    subst hb; dsimp only; omega
  o := by
    intro b hb
    simp only [twoC, List.mem_cons, List.not_mem_nil, or_false] at hb
    subst hb; dsimp only; simp [twoC]
theorem two_sites : sitesC twoC = [⟨0, 0, 0⟩, ⟨0, 20, 0⟩, ⟨20, 0, 1⟩] := by rfl
theorem two_nc : NoCl (sitesC twoC) := by
  rw [two_sites]
  intro a ha b hb
  simp only [List.mem_cons, List.not_mem_nil, or_false] at ha hb
  rcases ha with rfl | rfl | rfl <;> rcases hb with rfl | rfl | rfl <;> (dsimp only; omega)
theorem two_wh : whC twoC 4 3 = 0 := by kernel_rfl
theorem ring_ok : EOk 5 rgE where
  n := by decide
  w := by decide
  m := by decide
  v := by decide
theorem ring_de : deL 5 rgE = [0, 1, 2] := by kernel_rfl
def rowA : ByteArray := ⟨#[87, 46, 46, 46, 46, 46, 69]⟩
def cA : List Int := [1, 0, 0, 0, 0, 0, 2]
theorem dwA_ : dwM [rowA] = ⟨7, 1, cA⟩ := by kernel_rfl
theorem e01 : chkM ⟨7, 1, cA⟩ = 0 := by kernel_rfl
theorem e05 : owns cA 7 = [1, 1, 1, 3, 2, 2, 2] := by
  have S : Stt 7 1 6 := ⟨by decide, by decide, by decide⟩
  have e : cA = stc (sk 1 6) 7 (7 * 1) := by rfl
  rw [e]
  have hl : (owns (stc (sk 1 6) 7 (7 * 1)) 7).length = 7 := by rw [owns_len, stc_len]
  refine ext0 (by rw [hl]; rfl) fun n hn => ?_
  · have hn2 : n < 7 * 1 := by rw [hl] at hn; exact hn
    rw [st_owns S (by decide) hn2]
    have : n = 0 ∨ n = 1 ∨ n = 2 ∨ n = 3 ∨ n = 4 ∨ n = 5 ∨ n = 6 := by omega
    rcases this with rfl | rfl | rfl | rfl | rfl | rfl | rfl <;> rfl
theorem k1 (h : Hp) : VC Tryz.prog 9 [vM ⟨7, 1, cA⟩] h (.tuple [ints [1, 1, 1, 3, 2, 2, 2], I 0]) h := by
  have c := vc_Owners ⟨7, 1, cA⟩ h (by decide)
  rw [e01, if_pos rfl, show (⟨7, 1, cA⟩ : Mp).w.toNat = 7 from rfl, show (⟨7, 1, cA⟩ : Mp).c = cA from rfl, e05] at c
  exact c
theorem q1 (h : Hp) : VC Tryz.prog 21 [strs [rowA]] h (vM ⟨7, 1, cA⟩) h := by
  have c := vc_Drawn [rowA] h (by decide) (by decide); rw [dwA_] at c; exact c
end Go.Proofs.YtccpfempgmkmbaaGreat

open Go.Vm
open Riv
namespace Go.Proofs.YtccpfempgmkmbaaGreat
open Go.ChangeShapes Go.WideShapes Go.ChangeAt Go.RowKit

theorem open3 : Opens Tryz.prog 3 (fun n : Int => [DI n]) := Opens.int Tryz.underlying3
theorem open22 : Opens Tryz.prog 26 (fun l : List Int => [dints l]) := Opens.slice Tryz.underlying26 Vm.encI_len (by kernel_rfl) (by decide) open3
theorem open24 : Opens Tryz.prog 28 encM := (Opens.struct3 1 1 1 Tryz.underlying28 (by kernel_rfl) rfl rfl rfl (by kernel_rfl) (by kernel_rfl) (by kernel_rfl) open3 open3 open22).as (fun x => ⟨x.1, x.2.1, x.2.2⟩) encM fun _ => rfl
def dM (m : Mp) : D := .agg (encM m)
def dYs (l : List Mp) : D := .sl 3 l.length (l.flatMap encM)
theorem openM : OpenV Tryz.prog 28 dM := OpenV.struct Tryz.underlying28 open24
theorem openI : OpenV Tryz.prog 3 (fun n : Int => DI n) := OpenV.int Tryz.underlying3
theorem openL : OpenV Tryz.prog 26 dints := OpenV.slice Tryz.underlying26 (Opens.slice Tryz.underlying26 Vm.encI_len (by kernel_rfl) (by decide) open3)
theorem openYs : OpenV Tryz.prog 39 dYs := OpenV.slice Tryz.underlying39 (Opens.slice Tryz.underlying39 encM_len (by kernel_rfl) (by decide) open24)
def dU (l : List Int) : D := .sl 1 l.length (l.flatMap encU)
theorem openU : OpenV Tryz.prog 22 dU := OpenV.slice Tryz.underlying22 (Opens.slice Tryz.underlying22 encU_len (by kernel_rfl) (by decide) (Opens.int Tryz.underlying5))
def d8b (n : {n : Int // 0 ≤ n ∧ n ≤ 255}) : D := .s (.int .u8 n.1)
theorem openV_u8 {P : Program} {t : TypeId} (ht : P.underlying t = some (.int .u8)) : OpenV P t d8b := by
  intro W base H en v dd ps hok ⟨fuel, ht2⟩
  obtain ⟨n, h2, _, hw⟩ := DataW.trod_int ht ht2
  have hb : 0 ≤ n ∧ n ≤ 255 := by
    have hw2 : (decide ((0 : Int) ≤ n) && decide (n ≤ (255 : Int))) = true := hw
    simpa using hw2
  unfold Value.okWide at hok
  rw [ht] at hok
  simp only [Cell.okWide, ht] at hok
  refine ⟨⟨n, hb⟩, ?_⟩
  cases v <;> simp [Cell.ok, ht] at hok
  simp [Value.cells] at h2
  simp only [d8b, DR, S.val]
  rw [h2.1, h2.2]
theorem open8b : OpenV Tryz.prog 5 d8b := openV_u8 Tryz.underlying5
theorem ownKn : ownKnob Tryz.prog.godebug = none := by kernel_rfl
theorem laidOut : laidOutB Tryz.prog = true := by kernel_rfl
end Go.Proofs.YtccpfempgmkmbaaGreat

open Go.Vm
open Riv
namespace Go.Proofs.YtccpfempgmkmbaaGreat
set_option maxRecDepth 20000
set_option maxHeartbeats 4000000

abbrev mpl (W H : Nat) (L : List (List Int)) : List Mp := L.map (mp W H)
end Go.Proofs.YtccpfempgmkmbaaGreat

open Go.Vm
open Riv
namespace Go.Proofs.YtccpfempgmkmbaaGreat
set_option maxRecDepth 20000
set_option maxHeartbeats 4000000
section
variable {W H : Nat} {L : List (List Int)}
theorem mpl_len : (mpl W H L).length = L.length := List.length_map _
theorem mpl_at {y : Nat} (hy : y < L.length) : (mpl W H L)[y]? = some (mp W H (L.getD y [])) := by
  rw [List.getElem?_map, List.getD_eq_getElem?_getD, List.getElem?_eq_getElem hy]; rfl
theorem mpl_getD {y : Nat} (hy : y < L.length) : (mpl W H L).getD y mp0 = mp W H (L.getD y []) := by
  rw [List.getD_eq_getElem?_getD, mpl_at hy]; rfl
theorem mpl_ok (hL : ∀ c ∈ L, MOk W H c) : ∀ m ∈ mpl W H L, m.w = W ∧ m.h = H ∧ MOk W H m.c := fun m hm => by
  obtain ⟨c, hc, rfl⟩ := List.mem_map.1 hm
  exact ⟨rfl, rfl, hL c hc⟩
theorem mpl_few (hL : ∀ c ∈ L, MOk W H c) : ∀ m ∈ mpl W H L, m.c.length ≤ 4000000 := fun m hm => by
  have := MOk.le (mpl_ok hL m hm).2.2
  omega
theorem mpl_chk (hL : ∀ c ∈ L, MOk W H c) (hn : 1 ≤ L.length ∧ L.length ≤ 10) : chkY (mpl W H L) = 0 := chkY_of (by rw [mpl_len]; exact hn) (mpl_ok hL)
theorem cells_mpl : cellsY (mpl W H L) = L := by
  unfold cellsY
  rw [List.map_map]
  exact List.map_id' _
theorem wOf_mpl (hn : 1 ≤ L.length) : wOf (mpl W H L) = W := by
  cases L with
  | nil => simp at hn
  | cons c l => rfl
theorem lawL_at {y : Nat} {slow : Int} (hy : y < L.length) : (lawL W L slow)[y]? = some (lawAt W L slow y) := by
  unfold lawL; rw [List.getElem?_map, List.getElem?_range hy]; rfl
theorem lawL_len (slow : Int) : (lawL W L slow).length = L.length := by unfold lawL; rw [List.length_map, List.length_range]
theorem lawY_mpl (slow : Int) : lawY W (mpl W H L) slow = mpl W H (lawL W L slow) := by
  apply List.ext_getElem?
  intro y
  rcases Nat.lt_or_ge y L.length with h | h
  · rw [lawY_at (by rw [mpl_len]; exact h), mpl_getD h, cells_mpl, List.getElem?_map, lawL_at h]; rfl
  · rw [List.getElem?_eq_none (by rw [lawY_len, mpl_len]; exact h), List.getElem?_eq_none (by rw [mpl_len, lawL_len]; exact h)]
theorem kL (hL : ∀ c ∈ L, MOk W H c) (hn : 1 ≤ L.length ∧ L.length ≤ 10) {slow : Int} (hs : 0 ≤ slow ∧ slow ≤ 144) (h : Hp) : VC Tryz.prog 8 [yrs (mpl W H L), I slow] h (.tuple [yrs (mpl W H (lawL W L slow)), I 0]) h := by
  have := vc_Law (mpl W H L) slow h (by rw [mpl_len]; omega) (mpl_few hL)
  have e : rlE (mpl W H L) slow = 0 := by unfold rlE; rw [if_pos (mpl_chk hL hn), if_pos hs]
  unfold lwA at this
  rw [e, if_pos rfl, wOf_mpl hn.1, lawY_mpl] at this
  exact this
end
end Go.Proofs.YtccpfempgmkmbaaGreat

open Go.Vm
open Riv
namespace Go.Proofs.YtccpfempgmkmbaaGreat
set_option maxRecDepth 20000
set_option maxHeartbeats 4000000

theorem vc_aware (h : Hp) : VC Tryz.prog 11 [] h (B true) h := by
  have c1 := vc_Two
  have c2 := fun h => vc_Whose twoC 4 3 h two_ok two_nc (by omega) (by omega)
  rw [two_wh] at c2
  unfold vPt at c2
  have c3 := vc_Ring
  have c4 := fun h => vc_Depths 5 rgE h ring_ok
  rw [ring_de] at c4
  have q1 := q1
  have k1 := k1
  have j1 := fun h => vc_kequalI [1, 1, 1, 3, 2, 2, 2] [1, 1, 1, 3, 2, 2, 2] h (by decide) (by decide)
  have j2 := fun h => vc_kequalI [0, 1, 2] [0, 1, 2] h (by decide) (by decide)
  rw [decide_eq_true rfl] at j1 j2
  generalize twoC = T at *
  generalize rgE = G at *
  generalize cA = z at *
  refine VC.body Tryz.func11 rfl Tryz.ntmps11 Tryz.call11 (h.grows_refl) rfl ?_; conv => whnf
  repeat' (first | ((first | refine zs1 ?_ | refine zs2 ?_ | refine zs3 ?_ | refine zs4 ?_ | refine zs5 ?_); conv => whnf) | ((first | apply zi1 | apply zi2 | apply zi3 | apply zi4 | apply zi5) <;> intro _ <;> first | (exfalso; omega) | contradiction | (conv => whnf)) | (refine VCall.intro (c1 _) ?_; conv => whnf) | (refine VCall.intro (c2 _) ?_; conv => whnf) | (refine VCall.intro (c3 _) ?_; conv => whnf) | (refine VCall.intro (c4 _) ?_; conv => whnf))
  refine VCall.intro (VC.give (args' := [strs [rowA]]) (loc' := [.dead]) [(0, [.lit (.string rowA)])] [] (OutOk.lift _) zb zf (by exact FmAll.nil) rfl zv (q1 _)) ?_
  conv => whnf
  repeat' (first | ((first | refine zs1 ?_ | refine zs2 ?_ | refine zs3 ?_ | refine zs4 ?_ | refine zs5 ?_); conv => whnf) | ((first | apply zi1 | apply zi2 | apply zi3 | apply zi4 | apply zi5) <;> intro _ <;> first | (exfalso; omega) | contradiction | (conv => whnf)) | (refine VCall.intro (k1 _) ?_; conv => whnf))
  refine VCall.intro (VC.give (args' := [ints [1, 1, 1, 3, 2, 2, 2], ints [1, 1, 1, 3, 2, 2, 2]]) (loc' := [.dead, .dead]) [(1, [DI 1, DI 1, DI 1, DI 3, DI 2, DI 2, DI 2])] [] (OutOk.lift _) zb zf (by exact FmAll.nil) rfl zv (j1 _)) ?_
  conv => whnf
  repeat' (first | ((first | refine zs1 ?_ | refine zs2 ?_ | refine zs3 ?_ | refine zs4 ?_ | refine zs5 ?_); conv => whnf) | ((first | apply zi1 | apply zi2 | apply zi3 | apply zi4 | apply zi5) <;> intro _ <;> first | (exfalso; omega) | contradiction | (conv => whnf)))
  refine VCall.intro (VC.give (args' := [ints [0, 1, 2], ints [0, 1, 2]]) (loc' := [.dead, .dead, .dead]) [(2, [DI 0, DI 1, DI 2])] [] (OutOk.lift _) zb zf (by exact FmAll.nil) rfl zv (j2 _)) ?_
  conv => whnf
  repeat' (first | ((first | refine zs1 ?_ | refine zs2 ?_ | refine zs3 ?_ | refine zs4 ?_ | refine zs5 ?_); conv => whnf) | ((first | apply zi1 | apply zi2 | apply zi3 | apply zi4 | apply zi5) <;> intro _ <;> first | (exfalso; omega) | contradiction | (conv => whnf)))
  exact VOut.same rfl
end Go.Proofs.YtccpfempgmkmbaaGreat

open Go.Vm
open Riv
namespace Go.Proofs.YtccpfempgmkmbaaGreat
set_option maxRecDepth 20000
set_option maxHeartbeats 4000000

/-! ### A straight river and the base points along its shores -/
def bsK (p q : Int) (k : Nat) : List Bs := (List.range k).flatMap fun y : Nat => [⟨p, y, 0⟩, ⟨q, y, 1⟩]
theorem bsK_step (p q : Int) (k : Nat) : bsK p q (k + 1) = bsK p q k ++ [⟨p, k, 0⟩, ⟨q, k, 1⟩] := by unfold bsK; rw [List.range_succ, List.flatMap_append]; rfl
theorem bsK_len (p q : Int) : ∀ k, (bsK p q k).length = 2 * k
  | 0 => rfl
  | k + 1 => by rw [bsK_step, List.length_append, bsK_len p q k]; rfl
def cstM (p q : Int) (H : Nat) : Cst := ⟨bsK p q H, []⟩
theorem vc_made (w W H E : Nat) (h : Hp) (hw : 1 ≤ w ∧ w ≤ 20) (hW : 1 ≤ W ∧ W ≤ 12) (hH : H ≤ 6) (hE : E ≤ W) :
    VC Tryz.prog 6 [I w, .fp [DI W], .fp [DI H], .fp [DI E]] h (.tuple [vM ⟨W, H, stc (sk w (W - E)) W (W * H)⟩, vCt (cstM ((w : Int) - 1) ((W : Int) - E) H)]) h := by
  have hWH : W * H ≤ 12 * 6 := Nat.mul_le_mul hW.2 hH
  have eWH : (W : Int) * (H : Int) = ((W * H : Nat) : Int) := by rw [Int.natCast_mul]
  have hl := fun k => stc_len (sk w (W - E)) W k
  have hs := fun k => stc_succ (sk w (W - E)) W k
  have h0 : stc (sk w (W - E)) W 0 = [] := rfl
  have bl := fun k => bsK_len ((w : Int) - 1) ((W : Int) - E) k
  have bst := fun k => bsK_step ((w : Int) - 1) ((W : Int) - E) k
  have b0 : bsK ((w : Int) - 1) ((W : Int) - E) 0 = [] := rfl
  unfold cstM vCt
  dsimp only
  show VC Tryz.prog 6 _ h (.tuple [.agg [I W, I H, ints (stc (sk w (W - E)) W (W * H))], .agg [bss (bsK ((w : Int) - 1) ((W : Int) - E) H), ies []]]) h
  generalize W * H = N at *
  generalize bsK ((w : Int) - 1) ((W : Int) - E) = X at *
  obtain ⟨C, hC⟩ : ∃ C, C = stc (sk w (W - E)) W := ⟨_, rfl⟩
  rw [← hC] at hl hs h0 ⊢
  clear hC
  refine VC.bodyC 99 Tryz.func6 rfl Tryz.ntmps6 Tryz.call6 (h.grows_refl) rfl ?_
  conv => whnf
  repeat' (first | ((first | refine zs1 ?_ | refine zs2 ?_ | refine zs3 ?_ | refine zs4 ?_ | refine zs5 ?_); conv => whnf) | ((first | apply zi1 | apply zi2 | apply zi3 | apply zi4 | apply zi5) <;> intro _ <;> first | (exfalso; omega) | contradiction | (conv => whnf)))
  refine VCode.lpC (outer := h.lift) (marks := []) 99 (fun k : Nat => [(0, I w), (1, .fp [DI W]), (2, .fp [DI H]), (3, .fp [DI E]), (5, .ptr (.loc 0) 0), (6, .ptr (.loc 1) 0), (7, .ptr (.loc 2) 0), (8, .ptr (.loc 3) 0), (17, I N), (18, I k)]) (fun k => [.flat true [DI 0, DI 0, .nilslice], .flat true [.nilslice, .nilslice], .cells true [I W, I H, .gl (.loc 4) 1 (C k).length], .flat true [.nilslice, .nilslice], .flat true ((C k).flatMap Vm.encI)]) (fun k => k ≤ N) (fun k => N - k) 0 (Nat.zero_le _) ?_ ?_
  · rw [h0, ← eWH]
    conv => whnf
    refine Retell.turn ⟨[0,1,2,3,9], 9, [], []⟩ (TurnOk.mk' _ _ [] [] (OutOk.lift _) rfl (by decide) zb trivial trivial rfl) zw zm
  · intro k hk
    rcases Nat.lt_or_ge k N with h3 | h3
    · have hsk := hs k
      have hlk := hl k
      have e1 : (k : Int).tmod (W : Int) = ((k % W : Nat) : Int) := Int.ofNat_tmod k W
      have hr := Nat.mod_lt k (show 0 < W by omega)
      clear hs hl h0 bl bst b0
      generalize C k = L at *
      unfold sk at hsk
      generalize k % W = r at *
      by_cases h5 : r < w
      · rw [if_pos h5] at hsk
        conv => whnf
        repeat' (first | ((first | refine zs1 ?_ | refine zs2 ?_ | refine zs3 ?_ | refine zs4 ?_ | refine zs5 ?_); conv => whnf) | ((first | apply zi1 | apply zi2 | apply zi3 | apply zi4 | apply zi5) <;> intro _ <;> first | (exfalso; omega) | contradiction | (conv => whnf)) | (refine VMem.app1 (l := L) (1 : Int) Vm.encI_len rfl rfl rfl rfl rfl (by omega) ?_; conv => whnf))
        refine LEnd.intro (k + 1) (by omega) (by omega) ?_
        rw [hsk]
        conv => whnf
        rw [List.length_append]
        refine Retell.turn ⟨[0,1,2,3,6], 9, [], []⟩ (TurnOk.mk' _ _ [] [] (OutOk.lift _) rfl (by decide) zb trivial trivial rfl) zw zm
      · rw [if_neg h5] at hsk
        by_cases h6 : W - E ≤ r
        · rw [if_pos h6] at hsk
          conv => whnf
          repeat' (first | ((first | refine zs1 ?_ | refine zs2 ?_ | refine zs3 ?_ | refine zs4 ?_ | refine zs5 ?_); conv => whnf) | ((first | apply zi1 | apply zi2 | apply zi3 | apply zi4 | apply zi5) <;> intro _ <;> first | (exfalso; omega) | contradiction | (conv => whnf)) | (refine VMem.app1 (l := L) (2 : Int) Vm.encI_len rfl rfl rfl rfl rfl (by omega) ?_; conv => whnf))
          refine LEnd.intro (k + 1) (by omega) (by omega) ?_
          rw [hsk]
          conv => whnf
          rw [List.length_append]
          refine Retell.turn ⟨[0,1,2,3,6], 9, [], []⟩ (TurnOk.mk' _ _ [] [] (OutOk.lift _) rfl (by decide) zb trivial trivial rfl) zw zm
        · rw [if_neg h6] at hsk
          conv => whnf
          repeat' (first | ((first | refine zs1 ?_ | refine zs2 ?_ | refine zs3 ?_ | refine zs4 ?_ | refine zs5 ?_); conv => whnf) | ((first | apply zi1 | apply zi2 | apply zi3 | apply zi4 | apply zi5) <;> intro _ <;> first | (exfalso; omega) | contradiction | (conv => whnf)) | (refine VMem.app1 (l := L) (0 : Int) Vm.encI_len rfl rfl rfl rfl rfl (by omega) ?_; conv => whnf))
          refine LEnd.intro (k + 1) (by omega) (by omega) ?_
          rw [hsk]
          conv => whnf
          rw [List.length_append]
          refine Retell.turn ⟨[0,1,2,3,6], 9, [], []⟩ (TurnOk.mk' _ _ [] [] (OutOk.lift _) rfl (by decide) zb trivial trivial rfl) zw zm
    · obtain rfl : k = N := by omega
      have hlk := hl k
      clear hs hl h0
      generalize C k = L at *
      conv => whnf
      repeat' (first | ((first | refine zs1 ?_ | refine zs2 ?_ | refine zs3 ?_ | refine zs4 ?_ | refine zs5 ?_); conv => whnf) | ((first | apply zi1 | apply zi2 | apply zi3 | apply zi4 | apply zi5) <;> intro _ <;> first | (exfalso; omega) | contradiction | (conv => whnf)))
      refine VCode.lpC (outer := h.lift) (marks := []) 99 (fun y : Nat => [(0, I w), (1, .fp [DI W]), (2, .fp [DI H]), (3, .fp [DI E]), (5, .ptr (.loc 0) 0), (6, .ptr (.loc 1) 0), (7, .ptr (.loc 2) 0), (8, .ptr (.loc 3) 0), (50, I H), (51, I y)]) (fun y => [.flat true [DI 0, DI 0, .nilslice], .flat true [.nilslice, .nilslice], .cells true [I W, I H, .gl (.loc 4) 1 L.length], .cells true [.gl (.loc 5) 3 (X y).length, .nilslice], .flat true (L.flatMap Vm.encI), .flat true ((X y).flatMap encBs)]) (fun y => y ≤ H) (fun y => H - y) 0 (Nat.zero_le _) ?_ ?_
      · rw [b0]
        conv => whnf
        refine Retell.turn ⟨[0,1,2,3,4,9], 9, [], []⟩ (TurnOk.mk' _ _ [] [] (OutOk.lift _) rfl (by decide) zb trivial trivial rfl) zw zm
      · intro y hy
        rcases Nat.lt_or_ge y H with h7 | h7
        · have hsy := bst y
          have hly := bl y
          clear bst bl b0
          generalize X y = Y at *
          conv => whnf
          repeat' (first | ((first | refine zs1 ?_ | refine zs2 ?_ | refine zs3 ?_ | refine zs4 ?_ | refine zs5 ?_); conv => whnf) | ((first | apply zi1 | apply zi2 | apply zi3 | apply zi4 | apply zi5) <;> intro _ <;> first | (exfalso; omega) | contradiction | (conv => whnf)) | (refine VMem.appG (l := Y) [⟨(w : Int) - 1, y, 0⟩, ⟨(W : Int) - E, y, 1⟩] encBs_len rfl rfl rfl rfl rfl rfl (by show Y.length + 2 ≤ _; omega) ?_; conv => whnf))
          refine LEnd.intro (y + 1) (by omega) (by omega) ?_
          rw [hsy]
          conv => whnf
          rw [List.length_append]
          refine Retell.turn ⟨[0,1,2,3,4,7], 9, [], []⟩ (TurnOk.mk' _ _ [] [] (OutOk.lift _) rfl (by decide) zb trivial trivial rfl) zw zm
        · obtain rfl : y = H := by omega
          clear bst b0
          generalize X y = Y at *
          have f1 : (L.flatMap Vm.encI).length = L.length * 1 := flat_len Vm.encI_len _
          have f2 : (Y.flatMap encBs).length = Y.length * 3 := flat_len encBs_len _
          conv => whnf
          repeat' (first | ((first | refine zs1 ?_ | refine zs2 ?_ | refine zs3 ?_ | refine zs4 ?_ | refine zs5 ?_); conv => whnf) | ((first | apply zi1 | apply zi2 | apply zi3 | apply zi4 | apply zi5) <;> intro _ <;> first | (exfalso; omega) | contradiction | (conv => whnf)))
          refine zs6 [(1, 2)] ?_
          conv => whnf
          repeat' (first | ((first | refine zs1 ?_ | refine zs2 ?_ | refine zs3 ?_ | refine zs4 ?_ | refine zs5 ?_); conv => whnf) | ((first | apply zi1 | apply zi2 | apply zi3 | apply zi4 | apply zi5) <;> intro _ <;> first | (exfalso; omega) | contradiction | (conv => whnf)))
          refine VOut.data 9 [(4, L.flatMap Vm.encI), (5, Y.flatMap encBs)] [] rfl zf (by exact FmAll.nil) zw
end Go.Proofs.YtccpfempgmkmbaaGreat

open Go.Vm
open Riv
open Sea (nrK oneS ds stS xS fS)
namespace Go.Proofs.YtccpfempgmkmbaaGreat
set_option maxRecDepth 20000
set_option maxHeartbeats 4000000

theorem nrK_congr {f g : Nat → Int} : ∀ k, (∀ i, i < k → f i = g i) → nrK f k = nrK g k
  | 0, _ => rfl
  | k + 1, h => by
    have ih := nrK_congr k (fun i hi => h i (by omega))
    rw [nrK, nrK, ih, h k (by omega)]
theorem oneS_congr {s t : Nat → Int} {l : List Nat} (hl : l ≠ []) (h : ∀ i ∈ l, s i = t i) : oneS s l = oneS t l := by
  have hd : s (l.headD 0) = t (l.headD 0) := by
    cases l with
    | nil => exact absurd rfl hl
    | cons a l => exact h a List.mem_cons_self
  unfold oneS
  rw [hd]
  have e : (l.any fun i => decide (s i ≠ t (l.headD 0))) = l.any fun i => decide (t i ≠ t (l.headD 0)) := by
    rw [Bool.eq_iff_iff, List.any_eq_true, List.any_eq_true]
    constructor
    · rintro ⟨i, hi, h2⟩; exact ⟨i, hi, by rw [← h i hi]; exact h2⟩
    · rintro ⟨i, hi, h2⟩; exact ⟨i, hi, by rw [h i hi]; exact h2⟩
  rw [e]
theorem bsK_at (p q : Int) : ∀ (H i : Nat), i < 2 * H → (bsK p q H)[i]? = some (if i % 2 = 0 then ⟨p, (i / 2 : Nat), 0⟩ else ⟨q, (i / 2 : Nat), 1⟩)
  | 0, i, h => by omega
  | H + 1, i, h => by
    rw [bsK_step]
    rcases Nat.lt_or_ge i (2 * H) with h1 | h1
    · rw [List.getElem?_append_left (by rw [bsK_len]; exact h1)]
      exact bsK_at p q H i h1
    · rw [List.getElem?_append_right (by rw [bsK_len]; exact h1), bsK_len]
      rcases (show i = 2 * H ∨ i = 2 * H + 1 by omega) with rfl | rfl
      · rw [Nat.sub_self, if_pos (by omega), show 2 * H / 2 = H by omega]; rfl
      · rw [show 2 * H + 1 - 2 * H = 1 by omega, if_neg (by omega), show (2 * H + 1) / 2 = H by omega]; rfl
theorem bsK_mem {p q : Int} {H : Nat} {b : Bs} (h : b ∈ bsK p q H) : ∃ y : Nat, y < H ∧ (b = ⟨p, y, 0⟩ ∨ b = ⟨q, y, 1⟩) := by
  unfold bsK at h
  obtain ⟨y, h1, h2⟩ := List.mem_flatMap.1 h
  refine ⟨y, List.mem_range.1 h1, ?_⟩
  simp only [List.mem_cons, List.not_mem_nil, or_false] at h2
  exact h2
theorem cst_sites (p q : Int) (H : Nat) : sitesC (cstM p q H) = (bsK p q H).map sB := by unfold sitesC cstM; simp
theorem cst_ok {p q : Int} {H : Nat} (hp : -300 ≤ p ∧ p ≤ 300) (hq : -300 ≤ q ∧ q ≤ 300) (hH : 1 ≤ H ∧ H ≤ 6) : COk (cstM p q H) where
  nb := by show 1 ≤ (bsK p q H).length ∧ (bsK p q H).length ≤ 12; rw [bsK_len]; omega
  ni := by show (0 : Nat) ≤ 5; omega
  b := fun b hb => by
    obtain ⟨y, h1, h2⟩ := bsK_mem hb
    rcases h2 with rfl | rfl <;> (dsimp only; omega)
  i := fun i hi => (List.not_mem_nil hi).elim
  o := fun i hi => (List.not_mem_nil hi).elim
theorem cst_nc {p q : Int} {H : Nat} (hpq : p ≠ q) : NoCl (sitesC (cstM p q H)) := by
  rw [cst_sites]
  intro a ha b hb hab
  obtain ⟨a', ha1, rfl⟩ := List.mem_map.1 ha
  obtain ⟨b', hb1, rfl⟩ := List.mem_map.1 hb
  obtain ⟨y, _, h2⟩ := bsK_mem ha1
  obtain ⟨z, _, h4⟩ := bsK_mem hb1
  rcases h2 with rfl | rfl <;> rcases h4 with rfl | rfl <;> unfold sB at * <;> dsimp only at * <;> omega
theorem cst_wh {a b H x y : Nat} (hab : a < b) (hy : y < H) : whC (cstM ((a : Int) - 1) b H) x y = oneS stS (nrK (fS a b x y) (2 * H)).1 := by
  unfold whC
  rw [cst_sites]
  have hl : ((bsK ((a : Int) - 1) b H).map sB).length = 2 * H := by rw [List.length_map, bsK_len]
  rw [hl]
  have hS : ∀ i, i < 2 * H → ((bsK ((a : Int) - 1) b H).map sB).getD i zSt = if i % 2 = 0 then ⟨2 * ((a : Int) - 1), 2 * ((i / 2 : Nat) : Int), 0⟩ else ⟨2 * (b : Int), 2 * ((i / 2 : Nat) : Int), 1⟩ := by
    intro i hi
    rw [List.getD_eq_getElem?_getD, List.getElem?_map, bsK_at _ _ H i hi]
    split <;> rfl
  have hf : ∀ i, i < 2 * H → fC ((bsK ((a : Int) - 1) b H).map sB) x y i = fS a b x y i := by
    intro i hi
    unfold fC fS xS
    rw [hS i hi]
    split <;> rfl
  have hs : ∀ i, i < 2 * H → stC ((bsK ((a : Int) - 1) b H).map sB) i = stS i := by
    intro i hi
    unfold stC stS
    rw [hS i hi]
    split
    · show (0 : Int) = _; omega
    · show (1 : Int) = _; omega
  rw [nrK_congr (2 * H) hf]
  obtain ⟨n, hn⟩ : ∃ n, 2 * H = n + 1 := ⟨2 * H - 1, by omega⟩
  rw [hn] at hs ⊢
  have ok := Sea.nrK_ok (fS a b x y) n
  exact oneS_congr ok.ne fun i hi => hs i ((ok.mem i).1 hi).1
def wantI (w : Int) : Int := if w = 0 then 1 else if w = 1 then 2 else 3
theorem mid_eq {W H a b n : Nat} (S : Stt W a b) (h1 : W * H ≤ 160) (hn : n < W * H) : at0 (owns (stc (sk a b) W (W * H)) W) n = wantI (whC (cstM ((a : Int) - 1) b H) ((n % W : Nat) : Int) ((n / W : Nat) : Int)) := by
  have hy : n / W < H := Nat.div_lt_of_lt_mul hn
  rw [st_owns S h1 hn, cst_wh S.ab hy]
  unfold wantI
  exact (Sea.st_whose (x := n % W) S.ab hy).symm
end Go.Proofs.YtccpfempgmkmbaaGreat

open Go.Vm
open Riv
namespace Go.Proofs.YtccpfempgmkmbaaGreat
set_option maxRecDepth 20000
set_option maxHeartbeats 4000000

theorem vc_FoldA (v : Int) (h : Hp) : VC Tryz.prog 7 [I v, I 13] h (I ((v.tmod 13 + 13).tmod 13)) h := by
  have h1 := Int.tmod_lt_of_pos v (show (0 : Int) < 13 by decide)
  have h2 := Int.lt_tmod_of_pos v (show (0 : Int) < 13 by decide)
  refine VC.body Tryz.func7 rfl Tryz.ntmps7 Tryz.call7 (h.grows_refl) rfl ?_; conv => whnf
  repeat' (first | ((first | refine zs1 ?_ | refine zs2 ?_ | refine zs3 ?_ | refine zs4 ?_ | refine zs5 ?_); conv => whnf) | ((first | apply zi1 | apply zi2 | apply zi3 | apply zi4 | apply zi5) <;> intro _ <;> first | (exfalso; omega) | contradiction | (conv => whnf)))
  exact VOut.same rfl
theorem vc_TopMiddle (bs : List Int) (slow : Int) (h : Hp) : VC Tryz.prog 3 [bytes bs, I slow] h (B true) h := by
  have c0 := vc_Of bs
  -- what is drawn
  have a1 := (dealt bs).lo ((0 : Nat), (9 : Int)) 6
  have b1 := (dealt bs).hi ((0 : Nat), (9 : Int)) 6 (by decide)
  have n1 := (dealt bs).n ((0 : Nat), (9 : Int)) 6
  have d1 := fun i h hd => vc_between bs ((0 : Nat), (9 : Int)) 1 6 i h (by decide) (by decide) (by decide) hd
  rw [show (6 : Int) - 1 + 1 = 6 from rfl] at d1
  generalize dNx bs ((0 : Nat), (9 : Int)) 6 = x1 at *
  have a2 := (dealt bs).lo x1.2 3
  have b2 := (dealt bs).hi x1.2 3 (by decide)
  have n2 := (dealt bs).n x1.2 3
  have d2 := fun i h hd => vc_between bs x1.2 1 3 i h (by omega) (by decide) (by decide) hd
  rw [show (3 : Int) - 1 + 1 = 3 from rfl] at d2
  generalize dNx bs x1.2 3 = x2 at *
  have a3 := (dealt bs).lo x2.2 5
  have b3 := (dealt bs).hi x2.2 5 (by decide)
  have n3 := (dealt bs).n x2.2 5
  have d3 := fun i h hd => vc_between bs x2.2 2 6 i h (by omega) (by decide) (by decide) hd
  rw [show (6 : Int) - 2 + 1 = 5 from rfl] at d3
  generalize dNx bs x2.2 5 = x3 at *
  have a4 := (dealt bs).lo x3.2 3
  have b4 := (dealt bs).hi x3.2 3 (by decide)
  have d4 := fun i h hd => vc_between bs x3.2 1 3 i h (by omega) (by decide) (by decide) hd
  rw [show (3 : Int) - 1 + 1 = 3 from rfl] at d4
  generalize dNx bs x3.2 3 = x4 at *
  obtain ⟨H, eH, hH⟩ : ∃ H : Nat, (1 : Int) + x1.1 = H ∧ 1 ≤ H ∧ H ≤ 6 := ⟨(1 + x1.1).toNat, by omega, by omega⟩
  obtain ⟨a, ea, ha⟩ : ∃ a : Nat, (1 : Int) + x2.1 = a ∧ 1 ≤ a ∧ a ≤ 3 := ⟨(1 + x2.1).toNat, by omega, by omega⟩
  obtain ⟨w, ew, hw⟩ : ∃ w : Nat, (2 : Int) + x3.1 = w ∧ 2 ≤ w ∧ w ≤ 6 := ⟨(2 + x3.1).toNat, by omega, by omega⟩
  obtain ⟨E, eE, hE⟩ : ∃ E : Nat, (1 : Int) + x4.1 = E ∧ 1 ≤ E ∧ E ≤ 3 := ⟨(1 + x4.1).toNat, by omega, by omega⟩
  rw [eH] at d1
  rw [ea] at d2
  rw [ew] at d3
  rw [eE] at d4
  clear a1 b1 n1 a2 b2 n2 a3 b3 n3 a4 b4 eH ea ew eE
  generalize x1.2 = D1 at *
  generalize x2.2 = D2 at *
  generalize x3.2 = D3 at *
  generalize x4.2 = D4 at *
  -- the river
  obtain ⟨W, hWe⟩ : ∃ W, W = a + w + E := ⟨_, rfl⟩
  have hW12 : 4 ≤ W ∧ W ≤ 12 := by omega
  have eW : (a : Int) + w + E = W := by omega
  have hb : W - E = a + w := by omega
  have hbI : (W : Int) - E = ((a + w : Nat) : Int) := by omega
  have S1 : Stt W a (a + w) := ⟨by omega, by omega, by omega⟩
  have S2 : Stt W (a + 1) (a + w) := ⟨by omega, by omega, by omega⟩
  have hWH : W * H ≤ 12 * 6 := Nat.mul_le_mul hW12.2 hH.2
  have eWH : (W : Int) * (H : Int) = ((W * H : Nat) : Int) := by rw [Int.natCast_mul]
  have M1 := stc_mok (H := H) hW12.2 ⟨hH.1, by omega⟩ (by omega) S1
  have M2 := stc_mok (H := H) hW12.2 ⟨hH.1, by omega⟩ (by omega) S2
  have m1 := fun h => vc_made a W H E h (by omega) (by omega) hH.2 (by omega)
  have m2 := fun h => vc_made (a + 1) W H E h (by omega) (by omega) hH.2 (by omega)
  rw [hb, hbI] at m1 m2
  have hAt := fun n (hn : n < W * H) => mid_eq (H := H) S1 (by omega) hn
  have hAt2 := fun n (hn : n < W * H) => mid_eq (H := H) S2 (by omega) hn
  have hgr := fun slow => gr_law (H := H) (slow := slow) hW12.2 (by omega) S2
  have eo1 : ∀ c : List Int, (owns c W).length = c.length := fun c => owns_len c W
  have hl1 := stc_len (sk a (a + w)) W (W * H)
  have hl2 := stc_len (sk (a + 1) (a + w)) W (W * H)
  have kW1 := fun x y h hx hy => vc_Whose (cstM ((a : Int) - 1) ((a + w : Nat) : Int) H) x y h (cst_ok (by omega) (by omega) hH) (cst_nc (by omega)) hx hy
  have kW2 := fun x y h hx hy => vc_Whose (cstM (((a + 1 : Nat) : Int) - 1) ((a + w : Nat) : Int) H) x y h (cst_ok (by omega) (by omega) hH) (cst_nc (by omega)) hx hy
  have cFo := fun h => vc_FoldA slow h
  obtain ⟨nI, hnI⟩ : ∃ n, n = (slow.tmod 13 + 13).tmod 13 := ⟨_, rfl⟩
  have hnb : 0 ≤ nI ∧ nI ≤ 12 := by
    have g1 := Int.tmod_lt_of_pos slow (show (0 : Int) < 13 by decide)
    have g2 := Int.lt_tmod_of_pos slow (show (0 : Int) < 13 by decide)
    have g3 := Int.tmod_lt_of_pos (slow.tmod 13 + 13) (show (0 : Int) < 13 by decide)
    have g4 := Int.tmod_nonneg (13 : Int) (show 0 ≤ slow.tmod 13 + 13 by omega)
    omega
  rw [← hnI] at cFo
  clear hnI
  have hgr := hgr nI
  have kLw := fun h => kL (W := W) (H := H) (L := [stc (sk a (a + w)) W (W * H), stc (sk (a + 1) (a + w)) W (W * H)]) (fun c hc => by
    simp only [List.mem_cons, List.not_mem_nil, or_false] at hc
    rcases hc with rfl | rfl
    · exact M1
    · exact M2) ⟨by show 1 ≤ 2; decide, by show 2 ≤ 10; decide⟩ (slow := nI) (by omega) h
  have hY1 : (mpl W H (lawL W [stc (sk a (a + w)) W (W * H), stc (sk (a + 1) (a + w)) W (W * H)] nI))[1]? = some (mp W H (lawAt W [stc (sk a (a + w)) W (W * H), stc (sk (a + 1) (a + w)) W (W * H)] nI 1)) := by
    unfold mpl
    rw [List.getElem?_map, lawL_at (by show 1 < 2; omega)]; rfl
  have hYl : (mpl W H (lawL W [stc (sk a (a + w)) W (W * H), stc (sk (a + 1) (a + w)) W (W * H)] nI)).length = 2 := by rw [mpl_len, lawL_len]; rfl
  rw [hgr] at hY1
  clear hgr
  generalize mpl W H (lawL W [stc (sk a (a + w)) W (W * H), stc (sk (a + 1) (a + w)) W (W * H)] nI) = Y at *
  have kO1 := fun h => kO M1 h
  have kO2 := fun h => kO M2 h
  have q1 : ∀ k : Nat, (k : Int).tmod (W : Int) = ((k % W : Nat) : Int) ∧ k % W < W := fun k => ⟨Int.ofNat_tmod k W, Nat.mod_lt k (by omega)⟩
  have q2 : ∀ k : Nat, k < W * H → IntKind.i64.wrap ((k : Int).tdiv (W : Int)) = ((k / W : Nat) : Int) ∧ k / W < H := fun k hk => by
    have hy : k / W < H := Nat.div_lt_of_lt_mul hk
    refine ⟨?_, hy⟩
    rw [show ((k : Int).tdiv (W : Int)) = ((k / W : Nat) : Int) from Int.ofNat_tdiv k W]
    generalize k / W = y at *
    exact wrap_i64 (by omega)
  have caw := vc_aware
  have ea1 : ((a + 1 : Nat) : Int) = (a : Int) + 1 := by omega
  rw [ea1] at m2
  simp only [ea1] at kW2 hAt2
  generalize whC (cstM ((a : Int) - 1) ((a + w : Nat) : Int) H) = u1 at *
  generalize whC (cstM ((a : Int) + 1 - 1) ((a + w : Nat) : Int) H) = u2 at *
  unfold cstM vCt at m1 m2 kW1 kW2
  unfold vPt at kW1 kW2
  dsimp only at m1 m2 kW1 kW2
  have eV : ∀ c, vM ⟨(W : Int), H, c⟩ = .agg [I W, I H, ints c] := fun c => rfl
  rw [eV] at m1 m2
  have eV2 : ∀ c, vM (mp W H c) = .agg [I W, I H, ints c] := fun c => rfl
  rw [eV2] at kO1 kO2
  have eY : yrs (mpl W H [stc (sk a (a + w)) W (W * H), stc (sk (a + 1) (a + w)) W (W * H)]) = .fs 3 2 [DI W, DI H, dints (stc (sk a (a + w)) W (W * H)), DI W, DI H, dints (stc (sk (a + 1) (a + w)) W (W * H))] := rfl
  rw [eY] at kLw
  have ho1 := eo1 (stc (sk a (a + w)) W (W * H))
  have ho2 := eo1 (stc (sk (a + 1) (a + w)) W (W * H))
  rw [hl1] at ho1
  rw [hl2] at ho2
  clear eo1 eV eV2 eY M1 M2 S1 S2
  generalize owns (stc (sk a (a + w)) W (W * H)) W = O1 at *
  generalize owns (stc (sk (a + 1) (a + w)) W (W * H)) W = O2 at *
  generalize stc (sk a (a + w)) W (W * H) = C1 at *
  generalize stc (sk (a + 1) (a + w)) W (W * H) = C2 at *
  have bl1 : (bsK ((a : Int) - 1) ((a + w : Nat) : Int) H).length ≤ 100 := by rw [bsK_len]; omega
  have bl2 : (bsK ((a : Int) + 1 - 1) ((a + w : Nat) : Int) H).length ≤ 100 := by rw [bsK_len]; omega
  generalize bsK ((a : Int) - 1) ((a + w : Nat) : Int) H = X1 at *
  generalize bsK ((a : Int) + 1 - 1) ((a + w : Nat) : Int) H = X2 at *
  clear hWe hb hbI ea1
  generalize W * H = N at *
  refine VC.bodyC 5 Tryz.func3 rfl Tryz.ntmps3 Tryz.call3 (h.grows_refl) rfl ?_
  conv => whnf
  repeat' (first | ((first | refine zs1 ?_ | refine zs2 ?_ | refine zs3 ?_ | refine zs4 ?_ | refine zs5 ?_); conv => whnf) | ((first | apply zi1 | apply zi2 | apply zi3 | apply zi4 | apply zi5) <;> intro _ <;> first | (exfalso; omega) | contradiction | (conv => whnf)) | (refine VCall.intro (c0 _) ?_; conv => whnf) | (refine VCall.intro (d1 _ _ rfl) ?_; conv => whnf) | (refine VCall.intro (d2 _ _ rfl) ?_; conv => whnf) | (refine VCall.intro (d3 _ _ rfl) ?_; conv => whnf) | (refine VCall.intro (d4 _ _ rfl) ?_; conv => whnf))
  rw [eW]
  refine VCut.at' (outer := h.lift) (marks := []) 3 [(1, I slow), (4, B false), (6, .fp [DI H]), (7, I a), (9, .fp [DI E]), (10, .fp [DI W]), (11, .func (.func 6) [] [.fp [DI W], .fp [DI H], .fp [DI E]])] [] ?_ ?_
  · conv => whnf
    refine Retell.turn ⟨[], 9, [(1, [DI H]), (2, [DI E]), (3, [DI W])], []⟩ (TurnOk.mk' _ _ [(1, [DI H]), (2, [DI E]), (3, [DI W])] [] (OutOk.lift _) rfl (by decide) zb zf trivial rfl) zw zm
  conv => whnf
  repeat' (first | ((first | refine zs1 ?_ | refine zs2 ?_ | refine zs3 ?_ | refine zs4 ?_ | refine zs5 ?_); conv => whnf) | ((first | apply zi1 | apply zi2 | apply zi3 | apply zi4 | apply zi5) <;> intro _ <;> first | (exfalso; omega) | contradiction | (conv => whnf)) | (refine VCall.intro (m1 _) ?_; conv => whnf) | (refine VCall.intro (m2 _) ?_; conv => whnf) | (refine VCall.intro (cFo _) ?_; conv => whnf))
  by_cases hs : (H : Int) ≤ nI
  · rw [if_pos hs] at hY1
    refine VCut.at' (outer := h.lift) (marks := []) 99 [(6, .fp [DI H]), (10, .fp [DI W]), (12, .fp [DI W, DI H, dints C1]), (13, .fp [.sl 3 X1.length (X1.flatMap encBs), .sl 4 0 []]), (14, .fp [DI W, DI H, dints C2]), (15, .fp [.sl 3 X2.length (X2.flatMap encBs), .sl 4 0 []]), (16, I nI)] [] ?_ ?_
    · conv => whnf
      refine Retell.turn ⟨[], 9, [(0, [DI W, DI H, dints C1]), (1, [.sl 3 X1.length (X1.flatMap encBs), .sl 4 0 []]), (2, [DI W, DI H, dints C2]), (3, [.sl 3 X2.length (X2.flatMap encBs), .sl 4 0 []])], []⟩ (TurnOk.mk' _ _ [(0, [DI W, DI H, dints C1]), (1, [.sl 3 X1.length (X1.flatMap encBs), .sl 4 0 []]), (2, [DI W, DI H, dints C2]), (3, [.sl 3 X2.length (X2.flatMap encBs), .sl 4 0 []])] [] (OutOk.lift _) rfl (by decide) zb zr trivial rfl) zw zm
    conv => whnf
    repeat' (first | ((first | refine zs1 ?_ | refine zs2 ?_ | refine zs3 ?_ | refine zs4 ?_ | refine zs5 ?_); conv => whnf) | ((first | apply zi1 | apply zi2 | apply zi3 | apply zi4 | apply zi5) <;> intro _ <;> first | (exfalso; omega) | contradiction | (conv => whnf)))
    refine VCall.intro (VC.give (args' := [.fs 3 2 [DI W, DI H, dints C1, DI W, DI H, dints C2], I nI]) (loc' := [.dead]) [(0, [DI W, DI H, dints C1, DI W, DI H, dints C2])] [] (OutOk.lift _) zb zf (by exact FmAll.nil) rfl zw (kLw _)) ?_
    conv => whnf
    repeat' (first | ((first | refine zs1 ?_ | refine zs2 ?_ | refine zs3 ?_ | refine zs4 ?_ | refine zs5 ?_); conv => whnf) | ((first | apply zi1 | apply zi2 | apply zi3 | apply zi4 | apply zi5) <;> intro _ <;> first | (exfalso; omega) | contradiction | (conv => whnf)) | (refine VAny.ix encM_len 1 rfl rfl hY1 ?_; conv => whnf) | (refine VCall.intro (kO2 _) ?_; conv => whnf))
    refine VCode.lpC (outer := h.lift) (marks := []) 99 (fun k : Nat => [(6, .fp [DI H]), (10, .fp [DI W]), (19, .fp [.sl 3 X2.length (X2.flatMap encBs), .sl 4 0 []]), (94, ints O2), (95, I O2.length), (96, I k)]) (fun k => []) (fun k => k ≤ N) (fun k => N - k) 0 (Nat.zero_le _) ?_ ?_
    · conv => whnf
      refine Retell.turn ⟨[], 9, [(1, [.sl 3 X2.length (X2.flatMap encBs), .sl 4 0 []])], []⟩ (TurnOk.mk' _ _ [(1, [.sl 3 X2.length (X2.flatMap encBs), .sl 4 0 []])] [] (OutOk.lift _) rfl (by decide) zb zr trivial rfl) zw zm
    · intro k hk
      rcases Nat.lt_or_ge k N with h3 | h3
      · have hxo : O2[k]? = some (at0 O2 k) := at0_get (by omega)
        have hv := hAt2 k h3
        obtain ⟨g1, g3⟩ := q1 k
        obtain ⟨g2, g4⟩ := q2 k h3
        have hyb : -300 ≤ ((k / W : Nat) : Int) ∧ ((k / W : Nat) : Int) ≤ 300 := by
          clear g2 hv q1 q2
          generalize k / W = y at *
          omega
        have kk := fun h => kW2 ((k % W : Nat) : Int) ((k / W : Nat) : Int) h (by omega) hyb
        rw [← g1, ← g2] at kk
        rw [← g1, ← g2] at hv
        generalize u2 _ _ = v at kk hv
        generalize at0 O2 k = o at *
        unfold wantI at hv
        by_cases hv0 : v = 0
        · rw [if_pos hv0] at hv
          conv => whnf
          repeat' (first | ((first | refine zs1 ?_ | refine zs2 ?_ | refine zs3 ?_ | refine zs4 ?_ | refine zs5 ?_); conv => whnf) | ((first | apply zi1 | apply zi2 | apply zi3 | apply zi4 | apply zi5) <;> intro _ <;> first | (exfalso; omega) | contradiction | (conv => whnf)) | (refine VAny.ix Vm.encI_len k rfl rfl hxo ?_; conv => whnf))
          refine zs6 [] ?_
          conv => whnf
          repeat' (first | ((first | refine zs1 ?_ | refine zs2 ?_ | refine zs3 ?_ | refine zs4 ?_ | refine zs5 ?_); conv => whnf) | ((first | apply zi1 | apply zi2 | apply zi3 | apply zi4 | apply zi5) <;> intro _ <;> first | (exfalso; omega) | contradiction | (conv => whnf)) | (refine VCall.intro (kk _) ?_; conv => whnf))
          refine LEnd.intro (k + 1) (by omega) (by omega) ?_
          conv => whnf
          refine Retell.turn ⟨[], 9, [], []⟩ (TurnOk.mk' _ _ [] [] (OutOk.lift _) rfl (by decide) zb trivial trivial rfl) zw zm
        · rw [if_neg hv0] at hv
          by_cases hv1 : v = 1
          · rw [if_pos hv1] at hv
            conv => whnf
            repeat' (first | ((first | refine zs1 ?_ | refine zs2 ?_ | refine zs3 ?_ | refine zs4 ?_ | refine zs5 ?_); conv => whnf) | ((first | apply zi1 | apply zi2 | apply zi3 | apply zi4 | apply zi5) <;> intro _ <;> first | (exfalso; omega) | contradiction | (conv => whnf)) | (refine VAny.ix Vm.encI_len k rfl rfl hxo ?_; conv => whnf))
            refine zs6 [] ?_
            conv => whnf
            repeat' (first | ((first | refine zs1 ?_ | refine zs2 ?_ | refine zs3 ?_ | refine zs4 ?_ | refine zs5 ?_); conv => whnf) | ((first | apply zi1 | apply zi2 | apply zi3 | apply zi4 | apply zi5) <;> intro _ <;> first | (exfalso; omega) | contradiction | (conv => whnf)) | (refine VCall.intro (kk _) ?_; conv => whnf))
            refine LEnd.intro (k + 1) (by omega) (by omega) ?_
            conv => whnf
            refine Retell.turn ⟨[], 9, [], []⟩ (TurnOk.mk' _ _ [] [] (OutOk.lift _) rfl (by decide) zb trivial trivial rfl) zw zm
          · rw [if_neg hv1] at hv
            conv => whnf
            repeat' (first | ((first | refine zs1 ?_ | refine zs2 ?_ | refine zs3 ?_ | refine zs4 ?_ | refine zs5 ?_); conv => whnf) | ((first | apply zi1 | apply zi2 | apply zi3 | apply zi4 | apply zi5) <;> intro _ <;> first | (exfalso; omega) | contradiction | (conv => whnf)) | (refine VAny.ix Vm.encI_len k rfl rfl hxo ?_; conv => whnf))
            refine zs6 [] ?_
            conv => whnf
            repeat' (first | ((first | refine zs1 ?_ | refine zs2 ?_ | refine zs3 ?_ | refine zs4 ?_ | refine zs5 ?_); conv => whnf) | ((first | apply zi1 | apply zi2 | apply zi3 | apply zi4 | apply zi5) <;> intro _ <;> first | (exfalso; omega) | contradiction | (conv => whnf)) | (refine VCall.intro (kk _) ?_; conv => whnf))
            refine LEnd.intro (k + 1) (by omega) (by omega) ?_
            conv => whnf
            refine Retell.turn ⟨[], 9, [], []⟩ (TurnOk.mk' _ _ [] [] (OutOk.lift _) rfl (by decide) zb trivial trivial rfl) zw zm
      · obtain rfl : k = N := by omega
        conv => whnf
        repeat' (first | ((first | refine zs1 ?_ | refine zs2 ?_ | refine zs3 ?_ | refine zs4 ?_ | refine zs5 ?_); conv => whnf) | ((first | apply zi1 | apply zi2 | apply zi3 | apply zi4 | apply zi5) <;> intro _ <;> first | (exfalso; omega) | contradiction | (conv => whnf)) | (refine VCall.intro (caw _) ?_; conv => whnf))
        exact VOut.same rfl
  · rw [if_neg hs] at hY1
    refine VCut.at' (outer := h.lift) (marks := []) 99 [(6, .fp [DI H]), (10, .fp [DI W]), (12, .fp [DI W, DI H, dints C1]), (13, .fp [.sl 3 X1.length (X1.flatMap encBs), .sl 4 0 []]), (14, .fp [DI W, DI H, dints C2]), (15, .fp [.sl 3 X2.length (X2.flatMap encBs), .sl 4 0 []]), (16, I nI)] [] ?_ ?_
    · conv => whnf
      refine Retell.turn ⟨[], 9, [(0, [DI W, DI H, dints C1]), (1, [.sl 3 X1.length (X1.flatMap encBs), .sl 4 0 []]), (2, [DI W, DI H, dints C2]), (3, [.sl 3 X2.length (X2.flatMap encBs), .sl 4 0 []])], []⟩ (TurnOk.mk' _ _ [(0, [DI W, DI H, dints C1]), (1, [.sl 3 X1.length (X1.flatMap encBs), .sl 4 0 []]), (2, [DI W, DI H, dints C2]), (3, [.sl 3 X2.length (X2.flatMap encBs), .sl 4 0 []])] [] (OutOk.lift _) rfl (by decide) zb zr trivial rfl) zw zm
    conv => whnf
    repeat' (first | ((first | refine zs1 ?_ | refine zs2 ?_ | refine zs3 ?_ | refine zs4 ?_ | refine zs5 ?_); conv => whnf) | ((first | apply zi1 | apply zi2 | apply zi3 | apply zi4 | apply zi5) <;> intro _ <;> first | (exfalso; omega) | contradiction | (conv => whnf)))
    refine VCall.intro (VC.give (args' := [.fs 3 2 [DI W, DI H, dints C1, DI W, DI H, dints C2], I nI]) (loc' := [.dead]) [(0, [DI W, DI H, dints C1, DI W, DI H, dints C2])] [] (OutOk.lift _) zb zf (by exact FmAll.nil) rfl zw (kLw _)) ?_
    conv => whnf
    repeat' (first | ((first | refine zs1 ?_ | refine zs2 ?_ | refine zs3 ?_ | refine zs4 ?_ | refine zs5 ?_); conv => whnf) | ((first | apply zi1 | apply zi2 | apply zi3 | apply zi4 | apply zi5) <;> intro _ <;> first | (exfalso; omega) | contradiction | (conv => whnf)) | (refine VAny.ix encM_len 1 rfl rfl hY1 ?_; conv => whnf) | (refine VCall.intro (kO1 _) ?_; conv => whnf))
    refine VCode.lpC (outer := h.lift) (marks := []) 99 (fun k : Nat => [(6, .fp [DI H]), (10, .fp [DI W]), (19, .fp [.sl 3 X1.length (X1.flatMap encBs), .sl 4 0 []]), (94, ints O1), (95, I O1.length), (96, I k)]) (fun k => []) (fun k => k ≤ N) (fun k => N - k) 0 (Nat.zero_le _) ?_ ?_
    · conv => whnf
      refine Retell.turn ⟨[], 9, [(1, [.sl 3 X1.length (X1.flatMap encBs), .sl 4 0 []])], []⟩ (TurnOk.mk' _ _ [(1, [.sl 3 X1.length (X1.flatMap encBs), .sl 4 0 []])] [] (OutOk.lift _) rfl (by decide) zb zr trivial rfl) zw zm
    · intro k hk
      rcases Nat.lt_or_ge k N with h3 | h3
      · have hxo : O1[k]? = some (at0 O1 k) := at0_get (by omega)
        have hv := hAt k h3
        obtain ⟨g1, g3⟩ := q1 k
        obtain ⟨g2, g4⟩ := q2 k h3
        have hyb : -300 ≤ ((k / W : Nat) : Int) ∧ ((k / W : Nat) : Int) ≤ 300 := by
          clear g2 hv q1 q2
          generalize k / W = y at *
          omega
        have kk := fun h => kW1 ((k % W : Nat) : Int) ((k / W : Nat) : Int) h (by omega) hyb
        rw [← g1, ← g2] at kk
        rw [← g1, ← g2] at hv
        generalize u1 _ _ = v at kk hv
        generalize at0 O1 k = o at *
        unfold wantI at hv
        by_cases hv0 : v = 0
        · rw [if_pos hv0] at hv
          conv => whnf
          repeat' (first | ((first | refine zs1 ?_ | refine zs2 ?_ | refine zs3 ?_ | refine zs4 ?_ | refine zs5 ?_); conv => whnf) | ((first | apply zi1 | apply zi2 | apply zi3 | apply zi4 | apply zi5) <;> intro _ <;> first | (exfalso; omega) | contradiction | (conv => whnf)) | (refine VAny.ix Vm.encI_len k rfl rfl hxo ?_; conv => whnf))
          refine zs6 [] ?_
          conv => whnf
          repeat' (first | ((first | refine zs1 ?_ | refine zs2 ?_ | refine zs3 ?_ | refine zs4 ?_ | refine zs5 ?_); conv => whnf) | ((first | apply zi1 | apply zi2 | apply zi3 | apply zi4 | apply zi5) <;> intro _ <;> first | (exfalso; omega) | contradiction | (conv => whnf)) | (refine VCall.intro (kk _) ?_; conv => whnf))
          refine LEnd.intro (k + 1) (by omega) (by omega) ?_
          conv => whnf
          refine Retell.turn ⟨[], 9, [], []⟩ (TurnOk.mk' _ _ [] [] (OutOk.lift _) rfl (by decide) zb trivial trivial rfl) zw zm
        · rw [if_neg hv0] at hv
          by_cases hv1 : v = 1
          · rw [if_pos hv1] at hv
            conv => whnf
            repeat' (first | ((first | refine zs1 ?_ | refine zs2 ?_ | refine zs3 ?_ | refine zs4 ?_ | refine zs5 ?_); conv => whnf) | ((first | apply zi1 | apply zi2 | apply zi3 | apply zi4 | apply zi5) <;> intro _ <;> first | (exfalso; omega) | contradiction | (conv => whnf)) | (refine VAny.ix Vm.encI_len k rfl rfl hxo ?_; conv => whnf))
            refine zs6 [] ?_
            conv => whnf
            repeat' (first | ((first | refine zs1 ?_ | refine zs2 ?_ | refine zs3 ?_ | refine zs4 ?_ | refine zs5 ?_); conv => whnf) | ((first | apply zi1 | apply zi2 | apply zi3 | apply zi4 | apply zi5) <;> intro _ <;> first | (exfalso; omega) | contradiction | (conv => whnf)) | (refine VCall.intro (kk _) ?_; conv => whnf))
            refine LEnd.intro (k + 1) (by omega) (by omega) ?_
            conv => whnf
            refine Retell.turn ⟨[], 9, [], []⟩ (TurnOk.mk' _ _ [] [] (OutOk.lift _) rfl (by decide) zb trivial trivial rfl) zw zm
          · rw [if_neg hv1] at hv
            conv => whnf
            repeat' (first | ((first | refine zs1 ?_ | refine zs2 ?_ | refine zs3 ?_ | refine zs4 ?_ | refine zs5 ?_); conv => whnf) | ((first | apply zi1 | apply zi2 | apply zi3 | apply zi4 | apply zi5) <;> intro _ <;> first | (exfalso; omega) | contradiction | (conv => whnf)) | (refine VAny.ix Vm.encI_len k rfl rfl hxo ?_; conv => whnf))
            refine zs6 [] ?_
            conv => whnf
            repeat' (first | ((first | refine zs1 ?_ | refine zs2 ?_ | refine zs3 ?_ | refine zs4 ?_ | refine zs5 ?_); conv => whnf) | ((first | apply zi1 | apply zi2 | apply zi3 | apply zi4 | apply zi5) <;> intro _ <;> first | (exfalso; omega) | contradiction | (conv => whnf)) | (refine VCall.intro (kk _) ?_; conv => whnf))
            refine LEnd.intro (k + 1) (by omega) (by omega) ?_
            conv => whnf
            refine Retell.turn ⟨[], 9, [], []⟩ (TurnOk.mk' _ _ [] [] (OutOk.lift _) rfl (by decide) zb trivial trivial rfl) zw zm
      · obtain rfl : k = N := by omega
        conv => whnf
        repeat' (first | ((first | refine zs1 ?_ | refine zs2 ?_ | refine zs3 ?_ | refine zs4 ?_ | refine zs5 ?_); conv => whnf) | ((first | apply zi1 | apply zi2 | apply zi3 | apply zi4 | apply zi5) <;> intro _ <;> first | (exfalso; omega) | contradiction | (conv => whnf)) | (refine VCall.intro (caw _) ?_; conv => whnf))
        exact VOut.same rfl
end Go.Proofs.YtccpfempgmkmbaaGreat


/- Part 5 of the proof that passageFerried: ferries take a herd as far as the cells are. No condition. -/
import Derived.Test.YtoeendggmalcpaaFe4
set_option linter.unusedVariables false
set_option linter.unusedSimpArgs false
open Go.Vm
open Riv
namespace Go.Proofs.Ytoeendggmalcpaa.Rv
set_option maxRecDepth 20000
set_option maxHeartbeats 4000000

/-! ### Lists that are written place by place -/
theorem at0_get {l : List Int} {n : Nat} (hn : n < l.length) : l[n]? = some (at0 l n) := by
  unfold at0; rw [List.getD_eq_getElem?_getD, List.getElem?_eq_getElem hn]; rfl
def t0k (c : List Int) (s : Int) (k : Nat) : List Int := t0 (c.take k) s ++ List.replicate (c.length - k) (-1)
theorem t0_len (c : List Int) (s : Int) : (t0 c s).length = c.length := by unfold t0; rw [List.length_map]
theorem t0k_len {c : List Int} {s : Int} {k : Nat} (h : k ≤ c.length) : (t0k c s k).length = c.length := by
  unfold t0k; rw [List.length_append, t0_len, List.length_take, List.length_replicate]; omega
theorem t0k_zero (c : List Int) (s : Int) : t0k c s 0 = List.replicate c.length (-1) := rfl
theorem t0k_all (c : List Int) (s : Int) : t0k c s c.length = t0 c s := by
  unfold t0k; rw [List.take_of_length_le (Nat.le_refl _), Nat.sub_self]; simp
theorem t0k_step {c : List Int} {s x : Int} {k : Nat} (h : c[k]? = some x) : t0k c s (k + 1) = if x = s then (t0k c s k).set k 0 else t0k c s k := by
  obtain ⟨hlt, rfl⟩ := List.getElem?_eq_some_iff.1 h
  have e : List.replicate (c.length - k) (-1 : Int) = -1 :: List.replicate (c.length - (k + 1)) (-1) := by
    rw [show c.length - k = (c.length - (k + 1)) + 1 by omega]; rfl
  have hl : (t0 (c.take k) s).length = k := by rw [t0_len, List.length_take]; omega
  have e2 : t0 (c.take (k + 1)) s = t0 (c.take k) s ++ [if c[k] = s then 0 else -1] := by
    unfold t0
    rw [List.take_add_one, List.getElem?_eq_getElem hlt, List.map_append]; rfl
  unfold t0k
  rw [e2, e]
  split
  · rw [List.set_append_right _ _ (by omega), hl, Nat.sub_self, List.set_cons_zero]; simp
  · simp
theorem putB_len (c : List Int) (st : Int) (T : List Int) (k : Nat) : (putB c st T k).length = T.length := by
  unfold putB; split <;> simp
theorem nbF_len {f : List Int → Nat → List Int} (hf : ∀ T k, (f T k).length = T.length) (W L n : Nat) (T : List Int) (k : Nat) : (nbF f W L n T k).length = T.length := by
  unfold nbF
  generalize (List.range k).filterMap (nbO W L n) = l
  induction l generalizing T with
  | nil => rfl
  | cons a l ih => rw [List.foldl_cons, ih, hf]
theorem fold_len {f : List Int → Nat → List Int} (hf : ∀ T k, (f T k).length = T.length) : ∀ (l : List Nat) (T : List Int), (l.foldl f T).length = T.length
  | [], _ => rfl
  | a :: l, T => by rw [List.foldl_cons, fold_len hf l, hf]
theorem cellB_len (c : List Int) (W : Nat) (s st : Int) (T : List Int) (n : Nat) : (cellB c W s st T n).length = T.length := by
  unfold cellB
  split
  · exact fold_len (putB_len c st) _ T
  · rfl
theorem stepB_len (c : List Int) (W : Nat) (s : Int) (T : List Int) (st : Nat) : (stepB c W s T st).length = T.length := fold_len (cellB_len c W s st) _ T
def bfsK (c : List Int) (W : Nat) (s : Int) (k : Nat) : List Int := (List.range k).foldl (stepB c W s) (t0 c s)
theorem bfsK_len (c : List Int) (W : Nat) (s : Int) (k : Nat) : (bfsK c W s k).length = c.length := by unfold bfsK; rw [fold_len (stepB_len c W s), t0_len]
theorem bfsK_step (c : List Int) (W : Nat) (s : Int) (k : Nat) : bfsK c W s (k + 1) = stepB c W s (bfsK c W s k) k := by unfold bfsK; rw [List.range_succ, List.foldl_append]; rfl
def stepK (c : List Int) (W : Nat) (s : Int) (T : List Int) (st k : Nat) : List Int := (List.range k).foldl (cellB c W s st) T
theorem stepK_len (c : List Int) (W : Nat) (s : Int) (T : List Int) (st k : Nat) : (stepK c W s T st k).length = T.length := fold_len (cellB_len c W s st) _ T
theorem stepK_step (c : List Int) (W : Nat) (s : Int) (T : List Int) (st k : Nat) : stepK c W s T st (k + 1) = cellB c W s st (stepK c W s T st k) k := by unfold stepK; rw [List.range_succ, List.foldl_append]; rfl
structure TJ (o : Vm.Id → Option Blk) (L : Nat) (T : List Int) (g : Hp) : Prop where
  o : g.outer = o
  b0 : g.get (.loc 0) = some (.cells true [.gl (.loc 1) 1 L])
  b1 : g.get (.loc 1) = some (.flat true (T.flatMap Vm.encI))
  b2 : g.get (.loc 2) = some .mark
theorem vc_table {W H : Nat} (m : Mp) (s : Int) (h : Hp) (o : MOk W H m.c) (hw : m.w = W) (hs : s = 1 ∨ s = 2) : VC Try.prog 109 [vSd m s] h (ints (bfs m.c W s)) h := by
  have hWb := o.w
  have hHb := o.h
  have hL := o.len
  have hlen : m.c.length ≤ 144 := by
    rw [hL]
    exact Nat.le_trans (Nat.mul_le_mul hWb.2 hHb.2) (by decide)
  obtain ⟨R, hR⟩ : ∃ R, R = bfs m.c W s := ⟨_, rfl⟩
  have hRl : R.length = m.c.length := by rw [hR]; exact bfsK_len _ _ _ _
  rw [← hR]
  have cT := fun k x hk h => vc_through m s x k h hk
  have cB := fun n h => vc_beside m n h
  have itB := fun n hn => iter_beside m W n (by omega) hw hn (by omega)
  obtain ⟨mw, mh, c⟩ := m
  dsimp only at hw o hL hlen hR hRl cT itB
  subst hw
  show VC Try.prog 109 [.agg [I W, I mh, ints c, I s]] h (ints R) h
  obtain ⟨mapD, hmapD⟩ : ∃ l, l = [DI W, DI mh, dints c, DI s] := ⟨_, rfl⟩
  refine VC.bodyC 2 Try.func109 rfl Try.ntmps109 Try.call109 (h.grows_refl) rfl ?_
  conv => whnf
  repeat' (first | ((first | refine zs1 ?_ | refine zs2 ?_ | refine zs3 ?_ | refine zs4 ?_ | refine zs5 ?_); conv => whnf) | ((first | apply zi1 | apply zi2 | apply zi3 | apply zi4 | apply zi5) <;> intro _ <;> conv => whnf))
  refine VCut.at' (outer := h.lift) (marks := []) 99 [(1, .fp [DI W, DI mh, dints c, DI s]), (3, .func (.func 135) [.agg [I W, I mh, ints c, I s]] [])] [] ?_ ?_
  · conv => whnf
    refine Retell.turn ⟨[], 1, [(0, [DI W, DI mh, dints c, DI s])], []⟩ (TurnOk.mk' _ _ [(0, [DI W, DI mh, dints c, DI s])] [] (OutOk.lift _) rfl (by decide) zb zf trivial rfl) zw zm
  conv => whnf
  repeat' (first | ((first | refine zs1 ?_ | refine zs2 ?_ | refine zs3 ?_ | refine zs4 ?_ | refine zs5 ?_); conv => whnf) | ((first | apply zi1 | apply zi2 | apply zi3 | apply zi4 | apply zi5) <;> intro _ <;> conv => whnf))
  refine VCall.intro (VC.give (args' := [ints [-1], I c.length]) (loc' := [.dead]) [(0, [DI (-1)])] [] (OutOk.lift _) zb zf (by exact FmAll.nil) rfl zw (vc_Repeat (-1) c.length _ (by omega))) ?_
  conv => whnf
  repeat' (first | ((first | refine zs1 ?_ | refine zs2 ?_ | refine zs3 ?_ | refine zs4 ?_ | refine zs5 ?_); conv => whnf) | ((first | apply zi1 | apply zi2 | apply zi3 | apply zi4 | apply zi5) <;> intro _ <;> conv => whnf))
  refine VCode.lpC (outer := h.lift) (marks := []) 99 (fun k : Nat => [(1, .fp [DI W, DI mh, dints c, DI s]), (3, .func (.func 135) [.agg [I W, I mh, ints c, I s]] []), (4, .ptr (.loc 0) 0), (20, ints c), (21, I c.length), (22, I k)]) (fun k => [.cells true [.gl (.loc 1) 1 c.length], .flat true ((t0k c s k).flatMap Vm.encI)]) (fun k => k ≤ c.length) (fun k => c.length - k) 0 (Nat.zero_le _) ?_ ?_
  · rw [t0k_zero]
    conv => whnf
    refine Retell.turn ⟨[2,1], 3, [], []⟩ (TurnOk.mk' _ _ [] [] (OutOk.lift _) rfl (by decide) zb trivial trivial rfl) zw zm
  · rintro k hk
    rcases Nat.lt_or_ge k c.length with h3 | h3
    · have hx := at0_get h3
      have hst := t0k_step (s := s) hx
      have hkl : (t0k c s k)[k]? = some (at0 (t0k c s k) k) := at0_get (by rw [t0k_len hk]; exact h3)
      generalize at0 c k = x at hx hst
      generalize t0k c s k = T at hst hkl
      by_cases hxs : x = s
      · rw [if_pos hxs] at hst
        conv => whnf
        repeat' (first | ((first | refine zs1 ?_ | refine zs2 ?_ | refine zs3 ?_ | refine zs4 ?_ | refine zs5 ?_); conv => whnf) | ((first | apply zi1 | apply zi2 | apply zi3 | apply zi4 | apply zi5) <;> intro _ <;> first | (exfalso; omega) | contradiction | (conv => whnf)) | (refine VAny.ix Vm.encI_len k rfl rfl hx ?_; conv => whnf) | (refine VMem.setRec Vm.encI_len k 0 (0 : Int) rfl rfl rfl hkl (by decide) rfl (by simp) ?_; conv => whnf))
        refine LEnd.intro (k + 1) (by omega) (by omega) ?_
        rw [hst]
        conv => whnf
        refine Retell.turn ⟨[0,1], 2, [], []⟩ (TurnOk.mk' _ _ [] [] (OutOk.lift _) rfl (by decide) zb trivial trivial rfl) zw zm
      · rw [if_neg hxs] at hst
        conv => whnf
        repeat' (first | ((first | refine zs1 ?_ | refine zs2 ?_ | refine zs3 ?_ | refine zs4 ?_ | refine zs5 ?_); conv => whnf) | ((first | apply zi1 | apply zi2 | apply zi3 | apply zi4 | apply zi5) <;> intro _ <;> first | (exfalso; omega) | contradiction | (conv => whnf)) | (refine VAny.ix Vm.encI_len k rfl rfl hx ?_; conv => whnf))
        refine LEnd.intro (k + 1) (by omega) (by omega) ?_
        rw [hst]
        conv => whnf
        refine Retell.turn ⟨[0,1], 2, [], []⟩ (TurnOk.mk' _ _ [] [] (OutOk.lift _) rfl (by decide) zb trivial trivial rfl) zw zm
    · obtain rfl : k = c.length := by omega
      rw [t0k_all]
      conv => whnf
      repeat' (first | ((first | refine zs1 ?_ | refine zs2 ?_ | refine zs3 ?_ | refine zs4 ?_ | refine zs5 ?_); conv => whnf) | ((first | apply zi1 | apply zi2 | apply zi3 | apply zi4 | apply zi5) <;> intro _ <;> first | (exfalso; omega) | contradiction | (conv => whnf)))
      refine VCode.lpC (outer := h.lift) (marks := []) 99 (fun st : Nat => [(1, .fp [DI W, DI mh, dints c, DI s]), (3, .func (.func 135) [.agg [I W, I mh, ints c, I s]] []), (4, .ptr (.loc 0) 0), (38, I c.length), (39, I st)]) (fun st => [.cells true [.gl (.loc 1) 1 c.length], .flat true ((bfsK c W s st).flatMap Vm.encI)]) (fun st => st ≤ c.length) (fun st => c.length - st) 0 (Nat.zero_le _) ?_ ?_
      · rw [show bfsK c W s 0 = t0 c s from rfl]
        conv => whnf
        refine Retell.turn ⟨[0,1], 2, [], []⟩ (TurnOk.mk' _ _ [] [] (OutOk.lift _) rfl (by decide) zb trivial trivial rfl) zw zm
      · rintro st hst
        rcases Nat.lt_or_ge st c.length with h5 | h5
        · have hB := bfsK_step c W s st
          have hBl := bfsK_len c W s st
          have hst2 : stepB c W s (bfsK c W s st) st = stepK c W s (bfsK c W s st) st c.length := rfl
          rw [hst2] at hB
          have hSl := fun n => stepK_len c W s (bfsK c W s st) st n
          have hSt := fun n => stepK_step c W s (bfsK c W s st) st n
          have hS0 : stepK c W s (bfsK c W s st) st 0 = bfsK c W s st := rfl
          rw [← hS0]
          generalize bfsK c W s st = T0 at *
          conv => whnf
          repeat' (first | ((first | refine zs1 ?_ | refine zs2 ?_ | refine zs3 ?_ | refine zs4 ?_ | refine zs5 ?_); conv => whnf) | ((first | apply zi1 | apply zi2 | apply zi3 | apply zi4 | apply zi5) <;> intro _ <;> first | (exfalso; omega) | contradiction | (conv => whnf)))
          refine VCode.lpC (outer := h.lift) (marks := []) 99 (fun n : Nat => [(1, .fp [DI W, DI mh, dints c, DI s]), (3, .func (.func 135) [.agg [I W, I mh, ints c, I s]] []), (4, .ptr (.loc 0) 0), (38, I c.length), (39, I st), (7, .fp [DI st]), (45, I c.length), (46, I n)]) (fun n => [.cells true [.gl (.loc 1) 1 c.length], .flat true ((stepK c W s T0 st n).flatMap Vm.encI)]) (fun n => n ≤ c.length) (fun n => c.length - n) 0 (Nat.zero_le _) ?_ ?_
          · generalize stepK c W s T0 st 0 = T
            conv => whnf
            refine Retell.turn ⟨[0,1], 3, [(2, [DI st])], []⟩ (TurnOk.mk' _ _ [(2, [DI st])] [] (OutOk.lift _) rfl (by decide) zb zf trivial rfl) zw zm
          · rintro n hn
            rcases Nat.lt_or_ge n c.length with h6 | h6
            · have hx := at0_get h6
              have hSn := hSt n
              have hTl := hSl n
              rw [hBl] at hTl
              generalize stepK c W s T0 st n = T at hSn hTl
              have ha : T[n]? = some (at0 T n) := at0_get (by omega)
              have cTn := cT n _ hx
              unfold cellB at hSn
              obtain ⟨x, hxe⟩ : ∃ x, x = at0 c n := ⟨_, rfl⟩
              obtain ⟨a, hae⟩ : ∃ a, a = at0 T n := ⟨_, rfl⟩
              rw [← hxe] at hx cTn
              rw [← hae] at ha
              have hthr : Thr c s n ↔ x = 0 ∨ x = s := by unfold Thr; rw [← hxe]
              by_cases hcond : at0 T n = st ∧ Thr c s n
              · rw [if_pos hcond] at hSn
                rw [decide_eq_true (hthr.1 hcond.2)] at cTn
                have hast : a = st := by rw [hae]; exact hcond.1
                clear hcond hthr hxe hae
                conv => whnf
                repeat' (first | ((first | refine zs1 ?_ | refine zs2 ?_ | refine zs3 ?_ | refine zs4 ?_ | refine zs5 ?_); conv => whnf) | ((first | apply zi1 | apply zi2 | apply zi3 | apply zi4 | apply zi5) <;> intro _ <;> conv => whnf))
                all_goals try (exfalso; omega)
                refine zs6 [] ?_
                conv => whnf
                repeat' (first | ((first | refine zs1 ?_ | refine zs2 ?_ | refine zs3 ?_ | refine zs4 ?_ | refine zs5 ?_); conv => whnf) | ((first | apply zi1 | apply zi2 | apply zi3 | apply zi4 | apply zi5) <;> intro _ <;> first | (exfalso; omega) | contradiction | (conv => whnf)) | (refine VLd.recc Vm.encI_len n 0 rfl rfl rfl ha (by decide) rfl (by simp) ?_; conv => whnf) | (refine VCall.intro (cTn _) ?_; conv => whnf) | (refine VCall.intro (cB n _) ?_; conv => whnf))
                refine VCode.tell [(1, .fp [DI W, DI mh, dints c, DI s]), (3, .func (.func 135) [.agg [I W, I mh, ints c, I s]] []), (4, .ptr (.loc 0) 0), (38, I c.length), (39, I st), (7, .fp [DI st]), (45, I c.length), (46, I n), (64, vBes ⟨W, mh, c⟩ n)] [.cells true [.gl (.loc 1) 1 c.length], .flat true (T.flatMap Vm.encI)] (marks' := []) ?_ ?_
                · conv => whnf
                  refine Retell.turn ⟨[0,1], 2, [], []⟩ (TurnOk.mk' _ _ [] [] (OutOk.lift _) rfl (by decide) zb trivial trivial rfl) zw zm
                · conv => whnf
                  refine VCode.iterS 4 (nbY W c.length n) (fun k g => TJ h.lift c.length (nbF (putB c st) W c.length n T k) g) _ (.loc 3) rfl (itB n h6) rfl rfl ⟨rfl, rfl, rfl, rfl⟩ ?_ ?_ ?_
                  · rintro k g hk hy hJ
                    rw [nbF_none (nbY_none hy)]; exact hJ
                  · rintro k g vs hk hy ⟨j0, j1, j2, j3⟩ hlp
                    obtain ⟨q, hq, rfl⟩ := nbY_some hy
                    rw [nbF_some hq]
                    have hqL := ((nbs_iff (by omega) hL h6).1 (nbO_mem hk hq)).1
                    have hUl := nbF_len (putB_len c st) W c.length n T k
                    rw [hTl] at hUl
                    generalize nbF (putB c st) W c.length n T k = U at j2 hUl
                    have hb : U[q]? = some (at0 U q) := at0_get (by omega)
                    have hy := at0_get hqL
                    unfold putB
                    obtain ⟨y, hye⟩ : ∃ y, y = at0 c q := ⟨_, rfl⟩
                    obtain ⟨b, hbe⟩ : ∃ b, b = at0 U q := ⟨_, rfl⟩
                    rw [← hye] at hy
                    rw [← hbe] at hb
                    have hopn : Opn c q ↔ y = 0 ∨ y = 3 := by unfold Opn; rw [← hye]
                    by_cases hput : at0 U q = -1 ∧ Opn c q
                    · rw [if_pos hput]
                      have h8 : b = -1 := by rw [hbe]; exact hput.1
                      have h9 := hopn.1 hput.2
                      clear hput hopn hye hbe
                      have n1 : g.get (.loc 1) ≠ none := by rw [j2]; simp
                      refine ⟨g.set (.loc 1) (.flat true ((U.set q ((st : Int) + 1)).flatMap Vm.encI)), ?_, ⟨j0, ?_, ?_, ?_⟩, ?_⟩
                      · refine VRound.vy' hlp rfl rfl rfl (Hp.grows_set _ _ _) fun l0 => ?_
                        refine VRound.tell [(1, .fp [DI W, DI mh, dints c, DI s]), (4, .ptr (.out (.loc 0)) 0), (7, .fp [DI st]), (65, I q)] ?_ ?_
                        · conv => whnf
                          refine Retell.turn ⟨[], 0, [], []⟩ (TurnOk.mk' _ _ [] [] (OutOk.lift _) rfl (by decide) zb trivial trivial rfl) zw zm
                        · conv => whnf
                          repeat (first | ((first | refine zs1 ?_ | refine zs2 ?_ | refine zs3 ?_ | refine zs4 ?_ | refine zs5 ?_ | refine zs6 [] ?_); conv => whnf))
                          refine VBegin.intro (get_out hlp _) rfl ?_
                          conv => whnf
                          repeat' (first | ((first | refine zs1 ?_ | refine zs2 ?_ | refine zs3 ?_ | refine zs4 ?_ | refine zs5 ?_); conv => whnf) | ((first | apply zi1 | apply zi2 | apply zi3 | apply zi4 | apply zi5) <;> intro _ <;> first | (exfalso; omega) | contradiction | (conv => whnf)) | (refine VLd.cell rfl rfl (get_setO (by decide) j1 _) rfl ?_; conv => whnf) | (refine VLd.recc Vm.encI_len q 0 rfl rfl (get_setO (by decide) j2 _) hb (by decide) rfl (by simp) ?_; conv => whnf) | (refine VAny.ix Vm.encI_len q rfl rfl hy ?_; conv => whnf) | (refine VMem.setRec Vm.encI_len q 0 ((st : Int) + 1) rfl rfl (get_setO (by decide) j2 _) hb (by decide) rfl (by simp) ?_; conv => whnf))
                          all_goals (
                            refine RFin.on (get_outNe (by decide) (outW_get _ _ _ _)) (VOut.liftS ?_ (Hp.grows_set _ _ _))
                            rw [lift_set n1]
                            exact outer_fix1 (get_out hlp []) (by decide))
                      · rw [Hp.get_set _ _ _ _ n1, if_neg (by decide)]; exact j1
                      · rw [Hp.get_set _ _ _ _ n1, if_pos rfl]
                      · rw [Hp.get_set _ _ _ _ n1, if_neg (by decide)]; exact j3
                      · rw [Hp.get_set _ _ _ _ n1, if_neg (by decide)]; exact hlp
                    · rw [if_neg hput]
                      have h8 : ¬ (b = -1 ∧ (y = 0 ∨ y = 3)) := fun hh => hput ⟨by rw [← hbe]; exact hh.1, hopn.2 hh.2⟩
                      clear hput hopn hye hbe
                      refine ⟨g, ?_, ⟨j0, j1, j2, j3⟩, hlp⟩
                      · refine VRound.vy' hlp rfl rfl rfl g.grows_refl fun l0 => ?_
                        refine VRound.tell [(1, .fp [DI W, DI mh, dints c, DI s]), (4, .ptr (.out (.loc 0)) 0), (7, .fp [DI st]), (65, I q)] ?_ ?_
                        · conv => whnf
                          refine Retell.turn ⟨[], 0, [], []⟩ (TurnOk.mk' _ _ [] [] (OutOk.lift _) rfl (by decide) zb trivial trivial rfl) zw zm
                        · conv => whnf
                          repeat (first | ((first | refine zs1 ?_ | refine zs2 ?_ | refine zs3 ?_ | refine zs4 ?_ | refine zs5 ?_ | refine zs6 [] ?_); conv => whnf))
                          refine VBegin.intro (get_out hlp _) rfl ?_
                          conv => whnf
                          repeat' (first | ((first | refine zs1 ?_ | refine zs2 ?_ | refine zs3 ?_ | refine zs4 ?_ | refine zs5 ?_); conv => whnf) | ((first | apply zi1 | apply zi2 | apply zi3 | apply zi4 | apply zi5) <;> intro _ <;> first | (exfalso; omega) | contradiction | (conv => whnf)) | (refine VLd.cell rfl rfl (get_setO (by decide) j1 _) rfl ?_; conv => whnf) | (refine VLd.recc Vm.encI_len q 0 rfl rfl (get_setO (by decide) j2 _) hb (by decide) rfl (by simp) ?_; conv => whnf) | (refine VAny.ix Vm.encI_len q rfl rfl hy ?_; conv => whnf))
                          all_goals first
                            | exact RFin.on (outW_get _ _ _ _) (VOut.back (get_out hlp []) rfl)
                            | (exfalso; omega)
                  · rintro ⟨go, gl⟩ ⟨j0, j1, j2, j3⟩ hlp
                    dsimp only at j0
                    subst j0
                    rw [nbF_all, ← hSn] at j2
                    obtain ⟨U, hU⟩ : ∃ U, U = stepK c W s T0 st (n + 1) := ⟨_, rfl⟩
                    rw [← hU] at j2
                    have j1 : gl[0]? = some _ := j1
                    have j2 : gl[1]? = some _ := j2
                    have j3 : gl[2]? = some _ := j3
                    have l0 := (List.getElem?_eq_some_iff.1 j1).1
                    have l1 := (List.getElem?_eq_some_iff.1 j2).1
                    have key : ∀ (x : Nat) (A : Blk), x ≠ 3 → (gl.set 3 A)[x]? = gl[x]? := fun x A hx => List.getElem?_set_ne (Ne.symm hx)
                    refine Told.mk [(1, .fp [DI W, DI mh, dints c, DI s]), (3, .func (.func 135) [.agg [I W, I mh, ints c, I s]] []), (4, .ptr (.loc 0) 0), (38, I c.length), (39, I st), (7, .fp [DI st]), (45, I c.length), (46, I n)] [.cells true [.gl (.loc 1) 1 c.length], .flat true (U.flatMap Vm.encI)] (marks' := []) ?_ ?_
                    · conv => whnf
                      refine Retell.turn ⟨[0, 1], gl.length, [], []⟩ (TurnOk.mk' _ _ [] [] (OutOk.lift _) (Nat.ble_eq_true_of_le (by simp)) (by simp) (BTos.cells (blt_of l0) ((key 0 _ (by decide)).trans j1) rfl zw (BTos.flat (blt_of l1) ((key 1 _ (by decide)).trans j2) rfl BTos.nil)) trivial trivial rfl) zw (MkTo.drop (show 2 ∉ ([0, 1] : List Nat) by decide) ((key 2 _ (by decide)).trans j3) MkTo.nil)
                    · conv => whnf
                      repeat' (first | ((first | refine zs1 ?_ | refine zs2 ?_ | refine zs3 ?_ | refine zs4 ?_ | refine zs5 ?_ | refine zs6 [] ?_); conv => whnf) | ((first | apply zi1 | apply zi2 | apply zi3 | apply zi4 | apply zi5) <;> intro _ <;> conv => whnf))
                      refine LEnd.intro (n + 1) (by omega) (by omega) ?_
                      rw [← hU]
                      conv => whnf
                      refine Retell.turn ⟨[0,1], 2, [], []⟩ (TurnOk.mk' _ _ [] [] (OutOk.lift _) rfl (by decide) zb trivial trivial rfl) zw zm
              · rw [if_neg hcond] at hSn
                have hno : ¬ (a = st ∧ (x = 0 ∨ x = s)) := fun hh => hcond ⟨by rw [← hae]; exact hh.1, hthr.2 hh.2⟩
                clear hcond hxe hae
                by_cases hth : x = 0 ∨ x = s
                · rw [decide_eq_true hth] at cTn
                  conv => whnf
                  repeat' (first | ((first | refine zs1 ?_ | refine zs2 ?_ | refine zs3 ?_ | refine zs4 ?_ | refine zs5 ?_); conv => whnf) | ((first | apply zi1 | apply zi2 | apply zi3 | apply zi4 | apply zi5) <;> intro _ <;> conv => whnf))
                  all_goals try (exfalso; omega)
                  refine zs6 [] ?_
                  conv => whnf
                  repeat' (first | ((first | refine zs1 ?_ | refine zs2 ?_ | refine zs3 ?_ | refine zs4 ?_ | refine zs5 ?_); conv => whnf) | ((first | apply zi1 | apply zi2 | apply zi3 | apply zi4 | apply zi5) <;> intro _ <;> first | (exfalso; omega) | contradiction | (conv => whnf)) | (refine VLd.recc Vm.encI_len n 0 rfl rfl rfl ha (by decide) rfl (by simp) ?_; conv => whnf) | (refine VCall.intro (cTn _) ?_; conv => whnf) | (refine VCall.intro (cB n _) ?_; conv => whnf))
                  all_goals first
                    | (exfalso; omega)
                    | (refine LEnd.intro (n + 1) (by omega) (by omega) ?_
                       rw [hSn]
                       conv => whnf
                       refine Retell.turn ⟨[0,1], 2, [], []⟩ (TurnOk.mk' _ _ [] [] (OutOk.lift _) rfl (by decide) zb trivial trivial rfl) zw zm)
                · rw [decide_eq_false hth] at cTn
                  conv => whnf
                  repeat' (first | ((first | refine zs1 ?_ | refine zs2 ?_ | refine zs3 ?_ | refine zs4 ?_ | refine zs5 ?_); conv => whnf) | ((first | apply zi1 | apply zi2 | apply zi3 | apply zi4 | apply zi5) <;> intro _ <;> conv => whnf))
                  all_goals try (exfalso; omega)
                  refine zs6 [] ?_
                  conv => whnf
                  repeat' (first | ((first | refine zs1 ?_ | refine zs2 ?_ | refine zs3 ?_ | refine zs4 ?_ | refine zs5 ?_); conv => whnf) | ((first | apply zi1 | apply zi2 | apply zi3 | apply zi4 | apply zi5) <;> intro _ <;> first | (exfalso; omega) | contradiction | (conv => whnf)) | (refine VLd.recc Vm.encI_len n 0 rfl rfl rfl ha (by decide) rfl (by simp) ?_; conv => whnf) | (refine VCall.intro (cTn _) ?_; conv => whnf) | (refine VCall.intro (cB n _) ?_; conv => whnf))
                  all_goals first
                    | (exfalso; omega)
                    | (refine LEnd.intro (n + 1) (by omega) (by omega) ?_
                       rw [hSn]
                       conv => whnf
                       refine Retell.turn ⟨[0,1], 2, [], []⟩ (TurnOk.mk' _ _ [] [] (OutOk.lift _) rfl (by decide) zb trivial trivial rfl) zw zm)
            · obtain rfl : n = c.length := by omega
              rw [← hB]
              conv => whnf
              repeat' (first | ((first | refine zs1 ?_ | refine zs2 ?_ | refine zs3 ?_ | refine zs4 ?_ | refine zs5 ?_); conv => whnf) | ((first | apply zi1 | apply zi2 | apply zi3 | apply zi4 | apply zi5) <;> intro _ <;> first | (exfalso; omega) | contradiction | (conv => whnf)))
              refine LEnd.intro (st + 1) (by omega) (by omega) ?_
              generalize bfsK c W s (st + 1) = T
              conv => whnf
              refine Retell.turn ⟨[0,1], 2, [], []⟩ (TurnOk.mk' _ _ [] [] (OutOk.lift _) rfl (by decide) zb trivial trivial rfl) zw zm
        · obtain rfl : st = c.length := by omega
          rw [show bfsK c W s c.length = R by rw [hR]; rfl]
          conv => whnf
          repeat' (first | ((first | refine zs1 ?_ | refine zs2 ?_ | refine zs3 ?_ | refine zs4 ?_ | refine zs5 ?_); conv => whnf) | ((first | apply zi1 | apply zi2 | apply zi3 | apply zi4 | apply zi5) <;> intro _ <;> first | (exfalso; omega) | contradiction | (conv => whnf)))
          rw [show ints R = .fs 1 c.length (R.flatMap Vm.encI) by unfold ints; rw [hRl]]
          have hRf : (R.flatMap Vm.encI).length = c.length * 1 := by rw [flat_len Vm.encI_len, hRl]
          refine VOut.data 2 [(1, R.flatMap Vm.encI)] [] rfl zf (by exact FmAll.nil) zw
end Go.Proofs.Ytoeendggmalcpaa.Rv

open Go.Vm
open Riv
namespace Go.Proofs.Ytoeendggmalcpaa.Rv
set_option maxRecDepth 20000
set_option maxHeartbeats 4000000

theorem lkE_ok {m : Mp} {s : Int} (h : lkE m s = 0) : ∃ W H : Nat, m.w = W ∧ m.h = H ∧ MOk W H m.c ∧ (s = 1 ∨ s = 2) := by
  unfold lkE at h
  by_cases h0 : chkM m = 0
  · rw [if_pos h0] at h
    obtain ⟨W, H, e1, e2, o⟩ := chkM_ok h0
    refine ⟨W, H, e1, e2, o, Decidable.byContradiction fun h1 => ?_⟩
    rw [if_neg h1] at h; simp at h
  · rw [if_neg h0] at h; exact absurd h h0
theorem MOk.le {W H : Nat} {c : List Int} (o : MOk W H c) : c.length ≤ 144 := by
  rw [o.len]
  exact Nat.le_trans (Nat.mul_le_mul o.w.2 o.h.2) (by decide)
def frL (m : Mp) (s : Int) : List Int := if lkE m s = 0 then bfs m.c m.w.toNat s else []
theorem frL_ok {m : Mp} {s : Int} {W : Nat} (h : lkE m s = 0) (hw : m.w = W) : frL m s = bfs m.c W s := by unfold frL; rw [if_pos h, hw, Int.toNat_natCast]
theorem vc_Far (m : Mp) (s : Int) (h : Hp) (hl : m.c.length ≤ 4000000) : VC Try.prog 62 [vM m, I s] h (.tuple [ints (frL m s), I (lkE m s)]) h := by
  have c := fun h => vc_looked m s h hl
  by_cases h0 : lkE m s = 0
  · obtain ⟨W, H, e1, _, o, hs⟩ := lkE_ok h0
    rw [frL_ok h0 e1]
    have cT := fun h => vc_table m s h o e1 hs
    rw [h0] at c ⊢
    generalize bfs m.c W s = T at cT
    obtain ⟨mw, mh, mc⟩ := m
    refine VC.body Try.func62 rfl Try.ntmps62 Try.call62 (h.grows_refl) rfl ?_; conv => whnf
    repeat' (first | ((first | refine zs1 ?_ | refine zs2 ?_ | refine zs3 ?_ | refine zs4 ?_ | refine zs5 ?_); conv => whnf) | ((first | apply zi1 | apply zi2 | apply zi3 | apply zi4 | apply zi5) <;> intro _ <;> first | (exfalso; omega) | contradiction | (conv => whnf)) | (refine VCall.intro (c _) ?_; conv => whnf) | (refine VCall.intro (cT _) ?_; conv => whnf))
    exact VOut.same rfl
  · have e : frL m s = [] := if_neg h0
    rw [e]
    generalize lkE m s = E at c h0
    obtain ⟨mw, mh, mc⟩ := m
    refine VC.body Try.func62 rfl Try.ntmps62 Try.call62 (h.grows_refl) rfl ?_; conv => whnf
    repeat' (first | ((first | refine zs1 ?_ | refine zs2 ?_ | refine zs3 ?_ | refine zs4 ?_ | refine zs5 ?_); conv => whnf) | ((first | apply zi1 | apply zi2 | apply zi3 | apply zi4 | apply zi5) <;> intro _ <;> first | (exfalso; omega) | contradiction | (conv => whnf)) | (refine VCall.intro (c _) ?_; conv => whnf))
    refine VOut.data 2 [] [] rfl zf (by exact FmAll.nil) zw
end Go.Proofs.Ytoeendggmalcpaa.Rv

open Go.Vm
open Riv
namespace Go.Proofs.Ytoeendggmalcpaa.Rv
set_option maxRecDepth 20000
set_option maxHeartbeats 4000000

/-! ### Tables of any numbers: a sum that wraps never helps one to hold -/
abbrev wr (n : Int) : Int := IntKind.i64.wrap n
end Go.Proofs.Ytoeendggmalcpaa.Rv

namespace Fer
open Riv Psg

def fW (a b : Nat) : Wy := ⟨a, b, 1, 1, 0, 0, 0, 1000⟩
def FOk (c : List Int) (W : Nat) (s : Int) (a b : Nat) : Prop := Nb W a b ∧ (at0 c a = 0 ∨ at0 c a = s) ∧ at0 c b = 0
instance (c : List Int) (W : Nat) (s : Int) (a b : Nat) : Decidable (FOk c W s a b) := by unfold FOk; infer_instance
def frS (c : List Int) (W : Nat) (s : Int) (ws : List Wy) (a b : Nat) : List Wy := if FOk c W s a b ∧ ws.length < 24 then ws ++ [fW a b] else ws
def frK (c : List Int) (W : Nat) (s : Int) (a : Nat) (ws : List Wy) : Nat → List Wy
  | 0 => ws
  | b + 1 => frS c W s (frK c W s a ws b) a b
def frA (c : List Int) (W : Nat) (s : Int) : Nat → List Wy
  | 0 => []
  | a + 1 => frK c W s a (frA c W s a) c.length
def stK (c : List Int) (s : Int) : Nat → Nat × Nat
  | 0 => (0, 0)
  | a + 1 => if at0 c a = s then (a, (stK c s a).2 + 1) else stK c s a
theorem stK_le (c : List Int) (s : Int) : ∀ k, (stK c s k).2 ≤ k
  | 0 => Nat.le_refl _
  | k + 1 => by
    have := stK_le c s k
    rw [stK]
    split
    · dsimp only; omega
    · omega
theorem stK_none {c : List Int} {s : Int} : ∀ {k : Nat}, (stK c s k).2 = 0 → ∀ j, j < k → at0 c j ≠ s
  | 0, _, j, hj => absurd hj (by omega)
  | k + 1, h, j, hj => by
    rw [stK] at h
    split at h
    · cases h
    · rename_i hk
      rcases Nat.lt_or_ge j k with h1 | h1
      · exact stK_none h j h1
      · rw [show j = k by omega]; exact hk
theorem stK_some {c : List Int} {s : Int} : ∀ {k : Nat}, (stK c s k).2 ≠ 0 → (stK c s k).1 < k ∧ at0 c (stK c s k).1 = s
  | 0, h => absurd rfl h
  | k + 1, h => by
    rw [stK] at h ⊢
    split at h
    · rename_i hk
      rw [if_pos hk]
      exact ⟨by dsimp only; omega, hk⟩
    · rename_i hk
      rw [if_neg hk]
      have := stK_some h
      exact ⟨by omega, this.2⟩
theorem stK_one {c : List Int} {s : Int} : ∀ {k : Nat}, (stK c s k).2 = 1 → ∀ j, j < k → at0 c j = s → j = (stK c s k).1
  | 0, h, j, hj, _ => absurd hj (by omega)
  | k + 1, h, j, hj, hs => by
    rw [stK] at h ⊢
    split at h
    · rename_i hk
      rw [if_pos hk]
      dsimp only at h ⊢
      rcases Nat.lt_or_ge j k with h1 | h1
      · exact absurd hs (stK_none (k := k) (by omega) j h1)
      · omega
    · rename_i hk
      rw [if_neg hk]
      rcases Nat.lt_or_ge j k with h1 | h1
      · exact stK_one h j h1 hs
      · rw [show j = k by omega] at hs; exact absurd hs hk
structure FrI (c : List Int) (W : Nat) (s : Int) (P : Nat → Nat → Prop) (ws : List Wy) : Prop where
  mem : ∀ w ∈ ws, ∃ a b, w = fW a b ∧ a < c.length ∧ b < c.length ∧ FOk c W s a b
  len : ws.length ≤ 24
  all : ws.length < 24 → ∀ a b, P a b → FOk c W s a b → fW a b ∈ ws
theorem frS_ok {c : List Int} {W : Nat} {s : Int} {P : Nat → Nat → Prop} {ws : List Wy} {a b : Nat} (ha : a < c.length) (hb : b < c.length) (h : FrI c W s P ws) : FrI c W s (fun x y => P x y ∨ (x = a ∧ y = b)) (frS c W s ws a b) := by
  unfold frS
  split
  · rename_i hc
    refine ⟨fun w hw => ?_, by rw [List.length_append, List.length_singleton]; omega, fun hl x y hp ho => ?_⟩
    · rcases List.mem_append.1 hw with hw | hw
      · exact h.mem w hw
      · rw [List.mem_singleton.1 hw]; exact ⟨a, b, rfl, ha, hb, hc.1⟩
    · rw [List.length_append, List.length_singleton] at hl
      rcases hp with hp | ⟨rfl, rfl⟩
      · exact List.mem_append_left _ (h.all (by omega) x y hp ho)
      · exact List.mem_append_right _ (List.mem_singleton.2 rfl)
  · rename_i hc
    refine ⟨h.mem, h.len, fun hl x y hp ho => ?_⟩
    rcases hp with hp | ⟨rfl, rfl⟩
    · exact h.all hl x y hp ho
    · exact absurd ⟨ho, hl⟩ hc
theorem FrI.imp {c : List Int} {W : Nat} {s : Int} {P Q : Nat → Nat → Prop} {ws : List Wy} (h : FrI c W s P ws) (hq : ∀ a b, Q a b → P a b) : FrI c W s Q ws := ⟨h.mem, h.len, fun hl a b hp ho => h.all hl a b (hq a b hp) ho⟩
theorem frK_ok {c : List Int} {W : Nat} {s : Int} {P : Nat → Nat → Prop} {ws : List Wy} {a : Nat} (ha : a < c.length) (h : FrI c W s P ws) : ∀ k, k ≤ c.length → FrI c W s (fun x y => P x y ∨ (x = a ∧ y < k)) (frK c W s a ws k)
  | 0, _ => h.imp fun x y hp => by
    rcases hp with hp | hp
    · exact hp
    · omega
  | k + 1, hk => by
    refine (frS_ok ha (by omega) (frK_ok ha h k (by omega))).imp fun x y hp => ?_
    rcases hp with hp | ⟨rfl, hy⟩
    · exact .inl (.inl hp)
    · rcases Nat.lt_or_ge y k with h1 | h1
      · exact .inl (.inr ⟨rfl, h1⟩)
      · exact .inr ⟨rfl, by omega⟩
theorem frA_ok {c : List Int} {W : Nat} {s : Int} : ∀ k, k ≤ c.length → FrI c W s (fun x y => x < k ∧ y < c.length) (frA c W s k)
  | 0, _ => ⟨fun w hw => (by cases hw), Nat.zero_le _, fun _ x y hp => (by omega)⟩
  | k + 1, hk => by
    refine (frK_ok (by omega) (frA_ok k (by omega)) c.length (Nat.le_refl _)).imp fun x y hp => ?_
    rcases Nat.lt_or_ge x k with h1 | h1
    · exact .inl ⟨h1, hp.2⟩
    · exact .inr ⟨by omega, hp.2⟩
theorem pp0 : Pp 0 := ⟨by decide, by decide⟩
theorem fW_ok {n a b : Nat} (ha : a < n) (hb : b < n) : WOk n (fW a b) :=
  ⟨⟨by show 0 ≤ (a : Int); omega, by show (a : Int) < n; omega⟩, ⟨by show 0 ≤ (b : Int); omega, by show (b : Int) < n; omega⟩, by show (0 : Int) ≤ 1 ∧ (1 : Int) ≤ 1000; decide, by show (0 : Int) ≤ 1 ∧ (1 : Int) ≤ 1000; decide, pp0, pp0, by show (0 : Int) ≤ 0 ∧ (0 : Int) ≤ 1000; decide, by show (1000 : Int) ≤ 1000; decide⟩
theorem nb_ne {W a b : Nat} (hW : 0 < W) (h : Nb W a b) : a ≠ b := by
  unfold Nb at h
  omega
def eD (T : List Int) (k : Nat) : Int := if at0 T k = -1 then 1001 else at0 T k
theorem fer_law {c : List Int} {W H : Nat} {s : Int} {T : List Int} {D : Tb} (hL : c.length = W * H) (hW : 4 ≤ W) (h144 : c.length ≤ 144) (hs : s ≠ 0) (hT : Hld c W s T) (hTb : ∀ k, -1 ≤ at0 T k ∧ at0 T k ≤ 144)
    (h0 : (stK c s c.length).2 ≠ 0) (hD : Lst c.length (frA c W s c.length) ⟨((stK c s c.length).1 : Int), 0, 0⟩ D) {p : Nat} (hp : p < c.length) (hp0 : at0 c p = 0) :
    (tell (dayOf D p) ≠ -1 → at0 T p ≠ -1 ∧ at0 T p ≤ tell (dayOf D p)) ∧ ((stK c s c.length).2 = 1 → (frA c W s c.length).length < 24 → tell (dayOf D p) = at0 T p) := by
  have hfr := frA_ok (c := c) (W := W) (s := s) c.length (Nat.le_refl _)
  obtain ⟨hst, hss⟩ := stK_some h0
  generalize hS : (stK c s c.length).1 = S at *
  have hws : ∀ w ∈ frA c W s c.length, WOk c.length w := fun w hw => by
    obtain ⟨a, b, rfl, ha, hb, _⟩ := hfr.mem w hw
    exact fW_ok ha hb
  have hHd : HOk c.length ⟨(S : Int), 0, 0⟩ := ⟨by dsimp only; omega, by dsimp only; omega, pp0⟩
  have hE : Hol c.length (frA c W s c.length) ⟨(S : Int), 0, 0⟩ (fun p _ => eD T p.toNat) := by
    refine ⟨?_, fun q t hq ht w hw y hy => ?_⟩
    · show eD T (S : Int).toNat ≤ 0
      unfold eD
      rw [Int.toNat_natCast, (hT.fit S hst).own hss, if_neg (by decide)]
      exact Int.le_refl _
    · obtain ⟨a, b, rfl, ha, hb, hnb, hthr, hb0⟩ := hfr.mem w hw
      unfold gone at hy
      split at hy
      · rename_i hc
        injection hy with hy
        subst hy
        obtain ⟨hc1, _, hc3, hc4⟩ := hc
        have hqa : q.toNat = a := by
          have : q = (a : Int) := hc1
          omega
        dsimp only [fW] at hc3 hc4 ⊢
        rw [hqa] at hc3 hc4 ⊢
        rw [Int.toNat_natCast]
        have hta : at0 T a ≠ -1 := fun e => by unfold eD at hc3; rw [if_pos e] at hc3; omega
        have hea : eD T a = at0 T a := if_neg hta
        rw [hea] at hc3 hc4 ⊢
        unfold eD
        have hga := hTb a
        have hbs : at0 c b ≠ s := fun e => hs (by rw [← e, hb0])
        rcases (hT.fit b hb).opn hbs (.inl hb0) with ⟨_, h2⟩ | ⟨k, _, _, _, _, h3, h4⟩
        · exact absurd (h2 a ha hnb.symm hthr) hta
        · have := h4 a ha hnb.symm hthr hta
          rw [if_neg (by have := hTb k; omega)]
          omega
      · cases hy
  have hle : ∀ t, Pp t → eD T p ≤ D p t := fun t ht => by
    have := hD.le hws hHd hE (fun q t _ _ => by show eD T q.toNat ≤ 1001; unfold eD; have := hTb q.toNat; split <;> omega) (p := (p : Int)) (s := t) (by omega) ht
    rw [Int.toNat_natCast] at this
    exact this
  have hday : eD T p ≤ dayOf D p := by
    obtain ⟨t, ht, e⟩ := dayOf_ex D p
    rw [e]; exact hle t ht
  unfold eD at hday
  have hcap := dayOf_cap hD (p := (p : Int)) (by omega)
  have h1 : tell (dayOf D p) ≠ -1 → at0 T p ≠ -1 ∧ at0 T p ≤ tell (dayOf D p) := fun ht => by
    unfold tell at ht ⊢
    split at ht
    · rename_i h2
      rw [if_pos h2]
      split at hday
      · omega
      · exact ⟨by assumption, hday⟩
    · exact absurd rfl ht
  refine ⟨h1, fun hone hlt => ?_⟩
  have hall := fun a b (ha : a < c.length) (hb : b < c.length) ho => hfr.all hlt a b ⟨ha, hb⟩ ho
  have honly : ∀ j, j < c.length → at0 c j = s → j = S := fun j hj hjs => by
    have := stK_one hone j hj hjs
    rw [hS] at this; exact this
  have key : ∀ (m : Nat) (k : Nat), k < c.length → (at0 c k = 0 ∨ at0 c k = s) → at0 T k = m → D k 0 ≤ m := by
    intro m
    induction m using Nat.strongRecOn with
    | _ m ih =>
      intro k hk hck hkm
      by_cases hks : at0 c k = s
      · have := honly k hk hks
        subst this
        have := hD.hol.own
        dsimp only at this
        omega
      · have hc0 : at0 c k = 0 := by
          rcases hck with h | h
          · exact h
          · exact absurd h hks
        rcases (hT.fit k hk).opn hks (.inl hc0) with ⟨h2, _⟩ | ⟨j, hj, hnb, hthr, hjn, h3, _⟩
        · omega
        · have hjb := hTb j
          obtain ⟨m', hm'⟩ : ∃ m' : Nat, at0 T j = m' := ⟨(at0 T j).toNat, by omega⟩
          have hj2 := ih m' (by omega) j hj hthr hm'
          have hw := hall j k hj hk ⟨hnb.symm, hthr, hc0⟩
          have hcj := hD.cap (j : Int) 0 (by omega) pp0
          have hg : gone (fW j k) ⟨(j : Int), D j 0, 0⟩ = some ⟨(k : Int), max (D j 0) 0 + 1, 0⟩ := by
            unfold gone
            have hmx := hTb k
            rw [if_pos ⟨rfl, (by show sub 0 0 = true; decide), (by dsimp only [fW]; omega), (by dsimp only [fW]; omega)⟩]
            dsimp only [fW]
            rw [show por 0 0 = 0 by decide]
          have := hD.hol.clo (j : Int) 0 (by omega) pp0 _ hw _ hg
          dsimp only at this
          omega
  by_cases hTp : at0 T p = -1
  · rw [hTp]
    refine Classical.byContradiction fun h => ?_
    exact (h1 h).1 hTp
  · have hg := hTb p
    obtain ⟨m, hm⟩ : ∃ m : Nat, at0 T p = m := ⟨(at0 T p).toNat, by omega⟩
    have h2 := key m p hp (.inl hp0) hm
    have h3 := dayOf_le (D := D) (p := (p : Int)) pp0
    rw [if_neg hTp] at hday
    unfold tell
    rw [if_pos (by omega)]
    omega
end Fer

open Go.Vm
open Riv
namespace Go.Vm
end Go.Vm
namespace Go.Proofs.Ytoeendggmalcpaa.Rv
set_option maxRecDepth 20000
set_option maxHeartbeats 4000000
structure MI (L : Nat) (M1 M : List Nat) : Prop where
  pre : M1 <+: M
  nd : M.Nodup
  lt : ∀ x ∈ M, x < L
theorem MI.len {L : Nat} {M1 M : List Nat} (h : MI L M1 M) : M1.length ≤ M.length ∧ M.length ≤ L := ⟨h.pre.length_le, nodup_len L M h.nd h.lt⟩
end Go.Proofs.Ytoeendggmalcpaa.Rv

open Go.Vm
namespace Go.Proofs.Ytoeendggmalcpaa.Rv
set_option maxRecDepth 20000
set_option maxHeartbeats 4000000

abbrev DU (n : Int) : D := .s (.int .u32 n)
def encU (n : Int) : List D := [.s (.int .u8 n)]
theorem encU_len (n : Int) : (encU n).length = 1 := rfl
def bytes (l : List Int) : V := .fs 1 l.length (l.flatMap encU)
def deckD (bs : List Int) (n s : Int) : List D := [.sl 1 bs.length (bs.flatMap encU), DI n, DU s]
theorem VOut.setS {h : Hp} {loc : List Blk} {i : Vm.Id} {b0 : Blk} {l : List D} {rw : Bool} {x : S} {L : Nat} (hL : Nat.ble loc.length L = true) (hb : h.get i = some b0) : VOut h ⟨outW h.lift i (.flat rw l), loc⟩ (.s x) (.s x) (h.set i (.flat rw l)) := by
  have hd : ∀ p ∈ [(i, Blk.flat rw l)], h.get p.1 ≠ none := by
    intro p hp
    simp only [List.mem_cons, List.not_mem_nil, or_false] at hp
    subst hp; simp only; rw [hb]; simp
  have := VOut.upd (loc := loc) (r1 := .s x) (r := .s x) [(i, .flat rw l)] [] [] L hL hd (by simp) rfl (by intro k b hk; simp at hk) (fun σ x hx => hx) (outer := outW h.lift i (.flat rw l)) rfl
  have he : (h.sets [(i, Blk.flat rw l)]).pushes [] = h.set i (.flat rw l) := by simp [Hp.sets, Hp.pushes]
  rw [he] at this
  exact this
theorem set_same {h : Hp} {i : Vm.Id} {b : Blk} (hb : h.get i = some b) : h.set i b = h := by
  cases i with
  | out i =>
    have hb : h.outer i = some b := hb
    obtain ⟨o, l⟩ := h
    simp only [Hp.set]
    congr 1
    funext j
    split
    · rename_i e; rw [e]; exact hb.symm
    · rfl
  | loc k =>
    have hb : h.loc[k]? = some b := hb
    obtain ⟨o, l⟩ := h
    simp only [Hp.set]
    congr 1
    obtain ⟨h1, h2⟩ := List.getElem?_eq_some_iff.1 hb
    rw [← h2]; exact List.set_getElem_self h1
theorem VOut.set2 {h : Hp} {loc : List Blk} {i : Vm.Id} {b0 b1 : Blk} {l : List D} {rw : Bool} {x : S} (hb : h.get i = some b0) : VOut h ⟨outW (outW h.lift i b1) i (.flat rw l), loc⟩ (.s x) (.s x) (h.set i (.flat rw l)) := by
  rw [outW_same]
  exact VOut.setS (L := loc.length) (by simp) hb
theorem vc_Draw0 (bs : List Int) (n s k : Int) (i : Vm.Id) (h : Hp) (hb : h.get i = some (.flat true (deckD bs n s))) (hk : k ≤ 1 ∨ bs = []) : VC Try.prog 44 [.ptr i 0, I k] h (I 0) (h.set i (.flat true (deckD bs n s))) := by
  rw [set_same hb]
  have hl : k ≤ 1 ∨ bs.length = 0 := by rcases hk with h1 | h1; exact .inl h1; exact .inr (by rw [h1]; rfl)
  refine VC.body Try.func44 rfl Try.ntmps44 Try.call44 (h.grows_refl) rfl ?_; conv => whnf
  repeat' (first | ((first | refine zs1 ?_ | refine zs2 ?_ | refine zs3 ?_ | refine zs4 ?_ | refine zs5 ?_); conv => whnf) | ((first | apply zi1 | apply zi2 | apply zi3 | apply zi4 | apply zi5) <;> intro _ <;> conv => whnf) | (refine VLd.flat rfl rfl (get_out hb _) rfl ?_; conv => whnf))
  · exact VOut.same rfl
  · exact VOut.same rfl
  · exfalso; omega
def dRd (bs : List Int) (N : Nat) : Int := IntKind.u32.wrap (IntKind.i64.wrap ((N : Int).tdiv (bs.length : Int)))
def dkS (bs : List Int) (N : Nat) (s c : Int) : Int := (IntKind.u32.wrap (IntKind.u32.wrap (IntKind.u32.wrap (s * 37) + IntKind.u32.wrap c) + IntKind.u32.wrap (101 * dRd bs N))).tmod 65521
def dR (bs : List Int) (N : Nat) (s k c : Int) : Int := if k ≤ 256 ∧ dRd bs N = 0 then (IntKind.i64.wrap (IntKind.u32.wrap c)).tmod k else (IntKind.i64.wrap (IntKind.u32.wrap (IntKind.u32.wrap (dkS bs N s c * 256) + IntKind.u32.wrap c))).tmod k
theorem u32_bd (n : Int) : 0 ≤ IntKind.u32.wrap n ∧ IntKind.u32.wrap n < 4294967296 := by
  unfold IntKind.wrap; simp [IntKind.bits, IntKind.signed]; omega
theorem tmod_bd {a k : Int} (ha : 0 ≤ a) (hk : 0 < k) : 0 ≤ a.tmod k ∧ a.tmod k < k := by
  rw [Int.tmod_eq_emod_of_nonneg ha]
  exact ⟨Int.emod_nonneg _ (by omega), Int.emod_lt_of_pos _ hk⟩
theorem dR_bd (bs : List Int) (N : Nat) (s c : Int) {k : Int} (hk : 0 < k) : 0 ≤ dR bs N s k c ∧ dR bs N s k c < k := by
  unfold dR
  split
  · have := u32_bd c
    rw [wrap_i64 (by omega)]
    exact tmod_bd this.1 hk
  · have := u32_bd (IntKind.u32.wrap (dkS bs N s c * 256) + IntKind.u32.wrap c)
    rw [wrap_i64 (by omega)]
    exact tmod_bd this.1 hk
theorem vc_Draw1 (bs : List Int) (N : Nat) (s k c : Int) (i : Vm.Id) (h : Hp) (hb : h.get i = some (.flat true (deckD bs N s))) (hk : 1 < k) (hc : bs[N % bs.length]? = some c) (hN : N ≤ 4000000000) :
    VC Try.prog 44 [.ptr i 0, I k] h (I (dR bs N s k c)) (h.set i (.flat true (deckD bs ((N : Int) + 1) (dkS bs N s c)))) := by
  have hlen : 0 < bs.length := by
    have := (List.getElem?_eq_some_iff.1 hc).1
    omega
  have hneB : ((bs.length : Int) != 0) = true := by rw [bne_iff_ne]; omega
  obtain ⟨R, hR⟩ : ∃ R, R = dR bs N s k c := ⟨_, rfl⟩
  rw [← hR]
  unfold dR at hR
  refine VC.body Try.func44 rfl Try.ntmps44 Try.call44 (h.grows_set _ _) rfl ?_
  conv => whnf
  repeat' (first | ((first | refine zs1 ?_ | refine zs2 ?_ | refine zs3 ?_ | refine zs4 ?_ | refine zs5 ?_ | refine zs6 [] ?_); conv => whnf) | ((first | apply zi1 | apply zi2 | apply zi3 | apply zi4 | apply zi5) <;> intro _ <;> conv => whnf) | (refine VLd.flat rfl rfl (get_out hb _) rfl ?_; conv => whnf) | (refine VAny.ix encU_len (N % bs.length) (by rfl) rfl hc ?_; conv => whnf) | (refine VLd.flat rfl rfl (outW_get _ _ _ _) rfl ?_; conv => whnf) | (refine VMem.st1 rfl rfl rfl (get_out hb _) rfl ?_; conv => whnf) | (refine VMem.st1 rfl rfl rfl (outW_get _ _ _ _) rfl ?_; conv => whnf) | (refine VArith.wr ?_; conv => whnf) | (refine VNeed.intro hneB ?_; conv => whnf))
  · exfalso; omega
  · exfalso; omega
  · rename_i h1 h2
    have h2 : dRd bs N = 0 := h2
    rw [if_pos ⟨h1, h2⟩] at hR
    subst hR
    refine VOut.set2 hb
  · rename_i h1 h2
    have h2 : ¬ dRd bs N = 0 := h2
    rw [if_neg (fun h => h2 h.2)] at hR
    subst hR
    refine VOut.set2 hb
  · rename_i h1
    rw [if_neg (fun h => h1 h.1)] at hR
    subst hR
    refine VOut.set2 hb
def dNx (bs : List Int) (d : Nat × Int) (k : Int) : Int × (Nat × Int) :=
  if k ≤ 1 ∨ bs = [] then (0, d) else (dR bs d.1 d.2 k (bs.getD (d.1 % bs.length) 0), (d.1 + 1, dkS bs d.1 d.2 (bs.getD (d.1 % bs.length) 0)))
def deckB (bs : List Int) (d : Nat × Int) : Blk := .flat true (deckD bs d.1 d.2)
theorem dNx_bd (bs : List Int) (d : Nat × Int) (k : Int) : 0 ≤ (dNx bs d k).1 ∧ ((dNx bs d k).1 = 0 ∨ (dNx bs d k).1 < k) ∧ (dNx bs d k).2.1 ≤ d.1 + 1 := by
  unfold dNx
  split
  · exact ⟨Int.le_refl _, .inl rfl, by simp only; omega⟩
  · rename_i h
    obtain ⟨q1, q2⟩ := dR_bd bs d.1 d.2 (bs.getD (d.1 % bs.length) 0) (k := k) (by omega)
    exact ⟨q1, .inr q2, Nat.le_refl _⟩
theorem vc_draw (bs : List Int) (d : Nat × Int) (k : Int) (i : Vm.Id) (h : Hp) (hN : d.1 ≤ 4000000000) (hb : h.get i = some (deckB bs d)) : VC Try.prog 44 [.ptr i 0, I k] h (I (dNx bs d k).1) (h.set i (deckB bs (dNx bs d k).2)) := by
  unfold dNx deckB at *
  split
  · rename_i hk; exact vc_Draw0 bs d.1 d.2 k i h hb hk
  · rename_i hk
    have hlen := List.length_pos_iff.2 (fun h => hk (.inr h))
    have hc : bs[d.1 % bs.length]? = some (bs.getD (d.1 % bs.length) 0) := by simp [List.getElem?_eq_getElem (Nat.mod_lt d.1 hlen)]
    exact vc_Draw1 bs d.1 d.2 k _ i h hb (by omega) hc hN
theorem vc_between (bs : List Int) (d : Nat × Int) (a b : Int) (i : Vm.Id) (h : Hp) (hN : d.1 ≤ 4000000000) (ha : -1000000 ≤ a ∧ a ≤ 1000000) (hb : -1000000 ≤ b ∧ b ≤ 1000000) (hd : h.get i = some (deckB bs d)) : VC Try.prog 57 [.ptr i 0, I a, I b] h (I (a + (dNx bs d (b - a + 1)).1)) (h.set i (deckB bs (dNx bs d (b - a + 1)).2)) := by
  have hbd := dNx_bd bs d (b - a + 1)
  have hD := fun i h hh => vc_draw bs d (b - a + 1) i h hN hh
  generalize dNx bs d (b - a + 1) = x at hbd hD
  refine VC.body Try.func57 rfl Try.ntmps57 Try.call57 (h.grows_set _ _) rfl ?_
  conv => whnf
  repeat' (first | ((first | refine zs1 ?_ | refine zs2 ?_ | refine zs3 ?_ | refine zs4 ?_ | refine zs5 ?_ | refine zs6 [] ?_); conv => whnf) | ((first | apply zi1 | apply zi2 | apply zi3 | apply zi4 | apply zi5) <;> intro _ <;> conv => whnf) | (refine VCall.intro (hD (.out i) _ (get_out hd _)) ?_; conv => whnf))
  exact VOut.setS (L := 0) rfl hd
theorem vc_coin (bs : List Int) (d : Nat × Int) (k : Int) (i : Vm.Id) (h : Hp) (hN : d.1 ≤ 4000000000) (hd : h.get i = some (deckB bs d)) : VC Try.prog 45 [.ptr i 0, I k] h (B ((dNx bs d k).1 == 0)) (h.set i (deckB bs (dNx bs d k).2)) := by
  have hD := fun i h hh => vc_draw bs d k i h hN hh
  generalize dNx bs d k = x at hD
  refine VC.body Try.func45 rfl Try.ntmps45 Try.call45 (h.grows_set _ _) rfl ?_
  conv => whnf
  repeat' (first | ((first | refine zs1 ?_ | refine zs2 ?_ | refine zs3 ?_ | refine zs4 ?_ | refine zs5 ?_ | refine zs6 [] ?_); conv => whnf) | ((first | apply zi1 | apply zi2 | apply zi3 | apply zi4 | apply zi5) <;> intro _ <;> conv => whnf) | (refine VCall.intro (hD (.out i) _ (get_out hd _)) ?_; conv => whnf))
  exact VOut.setS (L := 0) rfl hd
theorem VOut.ownP {h : Hp} {loc : List Blk} {ds : List D} (j L : Nat) (hL : Nat.ble loc.length L = true) (hj : loc[j]? = some (.flat true ds)) : VOut h ⟨h.lift, loc⟩ (.ptr (.loc j) 0) (.ptr h.fresh 0) (h.push (.flat true ds)) := by
  refine VOut.upd [] [.flat true ds] [j] L hL (by intro p hp; cases hp) (by simp) rfl ?_ ?_ rfl
  · intro k b hk
    cases k with
    | zero => rw [List.getElem?_cons_zero, Option.some.injEq] at hk; subst hk; exact ⟨j, rfl, hj⟩
    | succ k => simp at hk
  · intro σ x hx
    have : (V.ptr h.fresh 0).ren (backR h.loc.length [j] L) = .ptr (.loc j) 0 := by simp [V.ren, backR, Hp.fresh]
    rw [this]; exact hx
theorem vc_Of (bs : List Int) (h : Hp) : VC Try.prog 14 [bytes bs] h (.ptr h.fresh 0) (h.push (deckB bs (0, 9))) := by
  refine VC.body Try.func14 rfl Try.ntmps14 Try.call14 (h.grows_push _) rfl ?_
  conv => whnf
  repeat (first | ((first | refine zs1 ?_ | refine zs2 ?_ | refine zs3 ?_ | refine zs4 ?_ | refine zs5 ?_ | refine zs6 [] ?_); conv => whnf))
  exact VOut.ownP 0 1 rfl rfl
theorem VOut.setF {h : Hp} {loc : List Blk} {i : Vm.Id} {b0 : Blk} {l : List D} {rw : Bool} {r : V} {L : Nat} (hL : Nat.ble loc.length L = true) (hb : h.get i = some b0) (hr : ∀ ρ, r.ren ρ = r) : VOut h ⟨outW h.lift i (.flat rw l), loc⟩ r r (h.set i (.flat rw l)) := by
  have hd : ∀ p ∈ [(i, Blk.flat rw l)], h.get p.1 ≠ none := by
    intro p hp
    simp only [List.mem_cons, List.not_mem_nil, or_false] at hp
    subst hp; simp only; rw [hb]; simp
  have := VOut.upd (loc := loc) (r1 := r) (r := r) [(i, .flat rw l)] [] [] L hL hd (by simp) rfl (by intro k b hk; simp at hk) (fun σ x hx => by rw [hr]; exact hx) (outer := outW h.lift i (.flat rw l)) rfl
  have he : (h.sets [(i, Blk.flat rw l)]).pushes [] = h.set i (.flat rw l) := by simp [Hp.sets, Hp.pushes]
  rw [he] at this
  exact this
end Go.Proofs.Ytoeendggmalcpaa.Rv


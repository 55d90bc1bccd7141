/- Part 6 of the proof that what a river gave and took is exchanged back as the given statement says. No condition. -/
import Derived.Test.YtlgdkljiilbooaaGreatBh5
set_option linter.unusedVariables false
set_option linter.unusedSimpArgs false
open Go.Vm
open Riv
namespace Go.Proofs.YtlgdkljiilbooaaGreat
set_option maxRecDepth 20000
set_option maxHeartbeats 4000000

/-! ### Lists that are written place by place -/
theorem at0_get {l : List Int} {n : Nat} (hn : n < l.length) : l[n]? = some (at0 l n) := by
  unfold at0; rw [List.getD_eq_getElem?_getD, List.getElem?_eq_getElem hn]; rfl
def t0k (c : List Int) (s : Int) (k : Nat) : List Int := t0 (c.take k) s ++ List.replicate (c.length - k) (-1)
theorem t0_len (c : List Int) (s : Int) : (t0 c s).length = c.length := by unfold t0; rw [List.length_map]
theorem t0k_len {c : List Int} {s : Int} {k : Nat} (h : k ≤ c.length) : (t0k c s k).length = c.length := by
  unfold t0k; rw [List.length_append, t0_len, List.length_take, List.length_replicate]; omega
theorem t0k_zero (c : List Int) (s : Int) : t0k c s 0 = List.replicate c.length (-1) := rfl
theorem t0k_all (c : List Int) (s : Int) : t0k c s c.length = t0 c s := by
  unfold t0k; rw [List.take_of_length_le (Nat.le_refl _), Nat.sub_self]; simp
theorem t0k_step {c : List Int} {s x : Int} {k : Nat} (h : c[k]? = some x) : t0k c s (k + 1) = if x = s then (t0k c s k).set k 0 else t0k c s k := by
  obtain ⟨hlt, rfl⟩ := List.getElem?_eq_some_iff.1 h
  have e : List.replicate (c.length - k) (-1 : Int) = -1 :: List.replicate (c.length - (k + 1)) (-1) := by
    rw [show c.length - k = (c.length - (k + 1)) + 1 by omega]; rfl
  have hl : (t0 (c.take k) s).length = k := by rw [t0_len, List.length_take]; omega
  have e2 : t0 (c.take (k + 1)) s = t0 (c.take k) s ++ [if c[k] = s then 0 else -1] := by
    unfold t0
    rw [List.take_add_one, List.getElem?_eq_getElem hlt, List.map_append]; rfl
  unfold t0k
  rw [e2, e]
  split
  · rw [List.set_append_right _ _ (by omega), hl, Nat.sub_self, List.set_cons_zero]; simp
  · simp
theorem putB_len (c : List Int) (st : Int) (T : List Int) (k : Nat) : (putB c st T k).length = T.length := by
  unfold putB; split <;> simp
theorem nbF_len {f : List Int → Nat → List Int} (hf : ∀ T k, (f T k).length = T.length) (W L n : Nat) (T : List Int) (k : Nat) : (nbF f W L n T k).length = T.length := by
  unfold nbF
  generalize (List.range k).filterMap (nbO W L n) = l
  induction l generalizing T with
  | nil => rfl
  | cons a l ih => rw [List.foldl_cons, ih, hf]
theorem fold_len {f : List Int → Nat → List Int} (hf : ∀ T k, (f T k).length = T.length) : ∀ (l : List Nat) (T : List Int), (l.foldl f T).length = T.length
  | [], _ => rfl
  | a :: l, T => by rw [List.foldl_cons, fold_len hf l, hf]
theorem cellB_len (c : List Int) (W : Nat) (s st : Int) (T : List Int) (n : Nat) : (cellB c W s st T n).length = T.length := by
  unfold cellB
  split
  · exact fold_len (putB_len c st) _ T
  · rfl
theorem stepB_len (c : List Int) (W : Nat) (s : Int) (T : List Int) (st : Nat) : (stepB c W s T st).length = T.length := fold_len (cellB_len c W s st) _ T
def bfsK (c : List Int) (W : Nat) (s : Int) (k : Nat) : List Int := (List.range k).foldl (stepB c W s) (t0 c s)
theorem bfsK_len (c : List Int) (W : Nat) (s : Int) (k : Nat) : (bfsK c W s k).length = c.length := by unfold bfsK; rw [fold_len (stepB_len c W s), t0_len]
theorem bfsK_step (c : List Int) (W : Nat) (s : Int) (k : Nat) : bfsK c W s (k + 1) = stepB c W s (bfsK c W s k) k := by unfold bfsK; rw [List.range_succ, List.foldl_append]; rfl
def stepK (c : List Int) (W : Nat) (s : Int) (T : List Int) (st k : Nat) : List Int := (List.range k).foldl (cellB c W s st) T
theorem stepK_len (c : List Int) (W : Nat) (s : Int) (T : List Int) (st k : Nat) : (stepK c W s T st k).length = T.length := fold_len (cellB_len c W s st) _ T
theorem stepK_step (c : List Int) (W : Nat) (s : Int) (T : List Int) (st k : Nat) : stepK c W s T st (k + 1) = cellB c W s st (stepK c W s T st k) k := by unfold stepK; rw [List.range_succ, List.foldl_append]; rfl
structure TJ (o : Vm.Id → Option Blk) (L : Nat) (T : List Int) (g : Hp) : Prop where
  o : g.outer = o
  b0 : g.get (.loc 0) = some (.cells true [.gl (.loc 1) 1 L])
  b1 : g.get (.loc 1) = some (.flat true (T.flatMap encI))
  b2 : g.get (.loc 2) = some .mark
theorem vc_table {W H : Nat} (m : Mp) (s : Int) (h : Hp) (o : MOk W H m.c) (hw : m.w = W) (hs : s = 1 ∨ s = 2) : VC Tryz.prog 50 [vSd m s] h (ints (bfs m.c W s)) h := by
  have hWb := o.w
  have hHb := o.h
  have hL := o.len
  have hlen : m.c.length ≤ 144 := by
    rw [hL]
    exact Nat.le_trans (Nat.mul_le_mul hWb.2 hHb.2) (by decide)
  obtain ⟨R, hR⟩ : ∃ R, R = bfs m.c W s := ⟨_, rfl⟩
  have hRl : R.length = m.c.length := by rw [hR]; exact bfsK_len _ _ _ _
  rw [← hR]
  have cT := fun k x hk h => vc_through m s x k h hk
  have cB := fun n h => vc_beside m n h
  have itB := fun n hn => iter_beside m W n (by omega) hw hn (by omega)
  obtain ⟨mw, mh, c⟩ := m
  dsimp only at hw o hL hlen hR hRl cT itB
  subst hw
  show VC Tryz.prog 50 [.agg [I W, I mh, ints c, I s]] h (ints R) h
  obtain ⟨mapD, hmapD⟩ : ∃ l, l = [DI W, DI mh, dints c, DI s] := ⟨_, rfl⟩
  refine VC.bodyC 2 Tryz.func50 rfl Tryz.ntmps50 Tryz.call50 (h.grows_refl) rfl ?_
  conv => whnf
  repeat' (first | ((first | refine zs1 ?_ | refine zs2 ?_ | refine zs3 ?_ | refine zs4 ?_ | refine zs5 ?_); conv => whnf) | ((first | apply zi1 | apply zi2 | apply zi3 | apply zi4 | apply zi5) <;> intro _ <;> conv => whnf))
  refine VCut.at' (outer := h.lift) (marks := []) 99 [(1, .fp [DI W, DI mh, dints c, DI s]), (3, .func (.func 60) [.agg [I W, I mh, ints c, I s]] [])] [] ?_ ?_
  · conv => whnf
    refine Retell.turn ⟨[], 1, [(0, [DI W, DI mh, dints c, DI s])], []⟩ (TurnOk.mk' _ _ [(0, [DI W, DI mh, dints c, DI s])] [] (OutOk.lift _) rfl (by decide) zb zf trivial rfl) zw zm
  conv => whnf
  repeat' (first | ((first | refine zs1 ?_ | refine zs2 ?_ | refine zs3 ?_ | refine zs4 ?_ | refine zs5 ?_); conv => whnf) | ((first | apply zi1 | apply zi2 | apply zi3 | apply zi4 | apply zi5) <;> intro _ <;> conv => whnf))
  refine VCall.intro (VC.give (args' := [ints [-1], I c.length]) (loc' := [.dead]) [(0, [DI (-1)])] [] (OutOk.lift _) zb zf (by exact FmAll.nil) rfl zw (vc_Repeat (-1) c.length _ (by omega))) ?_
  conv => whnf
  repeat' (first | ((first | refine zs1 ?_ | refine zs2 ?_ | refine zs3 ?_ | refine zs4 ?_ | refine zs5 ?_); conv => whnf) | ((first | apply zi1 | apply zi2 | apply zi3 | apply zi4 | apply zi5) <;> intro _ <;> conv => whnf))
  refine VCode.lpC (outer := h.lift) (marks := []) 99 (fun k : Nat => [(1, .fp [DI W, DI mh, dints c, DI s]), (3, .func (.func 60) [.agg [I W, I mh, ints c, I s]] []), (4, .ptr (.loc 0) 0), (20, ints c), (21, I c.length), (22, I k)]) (fun k => [.cells true [.gl (.loc 1) 1 c.length], .flat true ((t0k c s k).flatMap encI)]) (fun k => k ≤ c.length) (fun k => c.length - k) 0 (Nat.zero_le _) ?_ ?_
  · rw [t0k_zero]
    conv => whnf
    refine Retell.turn ⟨[2,1], 3, [], []⟩ (TurnOk.mk' _ _ [] [] (OutOk.lift _) rfl (by decide) zb trivial trivial rfl) zw zm
  · rintro k hk
    rcases Nat.lt_or_ge k c.length with h3 | h3
    · have hx := at0_get h3
      have hst := t0k_step (s := s) hx
      have hkl : (t0k c s k)[k]? = some (at0 (t0k c s k) k) := at0_get (by rw [t0k_len hk]; exact h3)
      generalize at0 c k = x at hx hst
      generalize t0k c s k = T at hst hkl
      by_cases hxs : x = s
      · rw [if_pos hxs] at hst
        conv => whnf
        repeat' (first | ((first | refine zs1 ?_ | refine zs2 ?_ | refine zs3 ?_ | refine zs4 ?_ | refine zs5 ?_); conv => whnf) | ((first | apply zi1 | apply zi2 | apply zi3 | apply zi4 | apply zi5) <;> intro _ <;> first | (exfalso; omega) | contradiction | (conv => whnf)) | (refine VAny.ix encI_len k rfl rfl hx ?_; conv => whnf) | (refine VMem.setRec encI_len k 0 (0 : Int) rfl rfl rfl hkl (by decide) rfl (by simp) ?_; conv => whnf))
        refine LEnd.intro (k + 1) (by omega) (by omega) ?_
        rw [hst]
        conv => whnf
        refine Retell.turn ⟨[0,1], 2, [], []⟩ (TurnOk.mk' _ _ [] [] (OutOk.lift _) rfl (by decide) zb trivial trivial rfl) zw zm
      · rw [if_neg hxs] at hst
        conv => whnf
        repeat' (first | ((first | refine zs1 ?_ | refine zs2 ?_ | refine zs3 ?_ | refine zs4 ?_ | refine zs5 ?_); conv => whnf) | ((first | apply zi1 | apply zi2 | apply zi3 | apply zi4 | apply zi5) <;> intro _ <;> first | (exfalso; omega) | contradiction | (conv => whnf)) | (refine VAny.ix encI_len k rfl rfl hx ?_; conv => whnf))
        refine LEnd.intro (k + 1) (by omega) (by omega) ?_
        rw [hst]
        conv => whnf
        refine Retell.turn ⟨[0,1], 2, [], []⟩ (TurnOk.mk' _ _ [] [] (OutOk.lift _) rfl (by decide) zb trivial trivial rfl) zw zm
    · obtain rfl : k = c.length := by omega
      rw [t0k_all]
      conv => whnf
      repeat' (first | ((first | refine zs1 ?_ | refine zs2 ?_ | refine zs3 ?_ | refine zs4 ?_ | refine zs5 ?_); conv => whnf) | ((first | apply zi1 | apply zi2 | apply zi3 | apply zi4 | apply zi5) <;> intro _ <;> first | (exfalso; omega) | contradiction | (conv => whnf)))
      refine VCode.lpC (outer := h.lift) (marks := []) 99 (fun st : Nat => [(1, .fp [DI W, DI mh, dints c, DI s]), (3, .func (.func 60) [.agg [I W, I mh, ints c, I s]] []), (4, .ptr (.loc 0) 0), (38, I c.length), (39, I st)]) (fun st => [.cells true [.gl (.loc 1) 1 c.length], .flat true ((bfsK c W s st).flatMap encI)]) (fun st => st ≤ c.length) (fun st => c.length - st) 0 (Nat.zero_le _) ?_ ?_
      · rw [show bfsK c W s 0 = t0 c s from rfl]
        conv => whnf
        refine Retell.turn ⟨[0,1], 2, [], []⟩ (TurnOk.mk' _ _ [] [] (OutOk.lift _) rfl (by decide) zb trivial trivial rfl) zw zm
      · rintro st hst
        rcases Nat.lt_or_ge st c.length with h5 | h5
        · have hB := bfsK_step c W s st
          have hBl := bfsK_len c W s st
          have hst2 : stepB c W s (bfsK c W s st) st = stepK c W s (bfsK c W s st) st c.length := rfl
          rw [hst2] at hB
          have hSl := fun n => stepK_len c W s (bfsK c W s st) st n
          have hSt := fun n => stepK_step c W s (bfsK c W s st) st n
          have hS0 : stepK c W s (bfsK c W s st) st 0 = bfsK c W s st := rfl
          rw [← hS0]
          generalize bfsK c W s st = T0 at *
          conv => whnf
          repeat' (first | ((first | refine zs1 ?_ | refine zs2 ?_ | refine zs3 ?_ | refine zs4 ?_ | refine zs5 ?_); conv => whnf) | ((first | apply zi1 | apply zi2 | apply zi3 | apply zi4 | apply zi5) <;> intro _ <;> first | (exfalso; omega) | contradiction | (conv => whnf)))
          refine VCode.lpC (outer := h.lift) (marks := []) 99 (fun n : Nat => [(1, .fp [DI W, DI mh, dints c, DI s]), (3, .func (.func 60) [.agg [I W, I mh, ints c, I s]] []), (4, .ptr (.loc 0) 0), (38, I c.length), (39, I st), (7, .fp [DI st]), (45, I c.length), (46, I n)]) (fun n => [.cells true [.gl (.loc 1) 1 c.length], .flat true ((stepK c W s T0 st n).flatMap encI)]) (fun n => n ≤ c.length) (fun n => c.length - n) 0 (Nat.zero_le _) ?_ ?_
          · generalize stepK c W s T0 st 0 = T
            conv => whnf
            refine Retell.turn ⟨[0,1], 3, [(2, [DI st])], []⟩ (TurnOk.mk' _ _ [(2, [DI st])] [] (OutOk.lift _) rfl (by decide) zb zf trivial rfl) zw zm
          · rintro n hn
            rcases Nat.lt_or_ge n c.length with h6 | h6
            · have hx := at0_get h6
              have hSn := hSt n
              have hTl := hSl n
              rw [hBl] at hTl
              generalize stepK c W s T0 st n = T at hSn hTl
              have ha : T[n]? = some (at0 T n) := at0_get (by omega)
              have cTn := cT n _ hx
              unfold cellB at hSn
              obtain ⟨x, hxe⟩ : ∃ x, x = at0 c n := ⟨_, rfl⟩
              obtain ⟨a, hae⟩ : ∃ a, a = at0 T n := ⟨_, rfl⟩
              rw [← hxe] at hx cTn
              rw [← hae] at ha
              have hthr : Thr c s n ↔ x = 0 ∨ x = s := by unfold Thr; rw [← hxe]
              by_cases hcond : at0 T n = st ∧ Thr c s n
              · rw [if_pos hcond] at hSn
                rw [decide_eq_true (hthr.1 hcond.2)] at cTn
                have hast : a = st := by rw [hae]; exact hcond.1
                clear hcond hthr hxe hae
                conv => whnf
                repeat' (first | ((first | refine zs1 ?_ | refine zs2 ?_ | refine zs3 ?_ | refine zs4 ?_ | refine zs5 ?_); conv => whnf) | ((first | apply zi1 | apply zi2 | apply zi3 | apply zi4 | apply zi5) <;> intro _ <;> conv => whnf))
                all_goals try (exfalso; omega)
                refine zs6 [] ?_
                conv => whnf
                repeat' (first | ((first | refine zs1 ?_ | refine zs2 ?_ | refine zs3 ?_ | refine zs4 ?_ | refine zs5 ?_); conv => whnf) | ((first | apply zi1 | apply zi2 | apply zi3 | apply zi4 | apply zi5) <;> intro _ <;> first | (exfalso; omega) | contradiction | (conv => whnf)) | (refine VLd.recc encI_len n 0 rfl rfl rfl ha (by decide) rfl (by simp) ?_; conv => whnf) | (refine VCall.intro (cTn _) ?_; conv => whnf) | (refine VCall.intro (cB n _) ?_; conv => whnf))
                refine VCode.tell [(1, .fp [DI W, DI mh, dints c, DI s]), (3, .func (.func 60) [.agg [I W, I mh, ints c, I s]] []), (4, .ptr (.loc 0) 0), (38, I c.length), (39, I st), (7, .fp [DI st]), (45, I c.length), (46, I n), (64, vBes ⟨W, mh, c⟩ n)] [.cells true [.gl (.loc 1) 1 c.length], .flat true (T.flatMap encI)] (marks' := []) ?_ ?_
                · conv => whnf
                  refine Retell.turn ⟨[0,1], 2, [], []⟩ (TurnOk.mk' _ _ [] [] (OutOk.lift _) rfl (by decide) zb trivial trivial rfl) zw zm
                · conv => whnf
                  refine VCode.iterS 4 (nbY W c.length n) (fun k g => TJ h.lift c.length (nbF (putB c st) W c.length n T k) g) _ (.loc 3) rfl (itB n h6) rfl rfl ⟨rfl, rfl, rfl, rfl⟩ ?_ ?_ ?_
                  · rintro k g hk hy hJ
                    rw [nbF_none (nbY_none hy)]; exact hJ
                  · rintro k g vs hk hy ⟨j0, j1, j2, j3⟩ hlp
                    obtain ⟨q, hq, rfl⟩ := nbY_some hy
                    rw [nbF_some hq]
                    have hqL := ((nbs_iff (by omega) hL h6).1 (nbO_mem hk hq)).1
                    have hUl := nbF_len (putB_len c st) W c.length n T k
                    rw [hTl] at hUl
                    generalize nbF (putB c st) W c.length n T k = U at j2 hUl
                    have hb : U[q]? = some (at0 U q) := at0_get (by omega)
                    have hy := at0_get hqL
                    unfold putB
                    obtain ⟨y, hye⟩ : ∃ y, y = at0 c q := ⟨_, rfl⟩
                    obtain ⟨b, hbe⟩ : ∃ b, b = at0 U q := ⟨_, rfl⟩
                    rw [← hye] at hy
                    rw [← hbe] at hb
                    have hopn : Opn c q ↔ y = 0 ∨ y = 3 := by unfold Opn; rw [← hye]
                    by_cases hput : at0 U q = -1 ∧ Opn c q
                    · rw [if_pos hput]
                      have h8 : b = -1 := by rw [hbe]; exact hput.1
                      have h9 := hopn.1 hput.2
                      clear hput hopn hye hbe
                      have n1 : g.get (.loc 1) ≠ none := by rw [j2]; simp
                      refine ⟨g.set (.loc 1) (.flat true ((U.set q ((st : Int) + 1)).flatMap encI)), ?_, ⟨j0, ?_, ?_, ?_⟩, ?_⟩
                      · refine VRound.vy' hlp rfl rfl rfl (Hp.grows_set _ _ _) fun l0 => ?_
                        refine VRound.tell [(1, .fp [DI W, DI mh, dints c, DI s]), (4, .ptr (.out (.loc 0)) 0), (7, .fp [DI st]), (65, I q)] ?_ ?_
                        · conv => whnf
                          refine Retell.turn ⟨[], 0, [], []⟩ (TurnOk.mk' _ _ [] [] (OutOk.lift _) rfl (by decide) zb trivial trivial rfl) zw zm
                        · conv => whnf
                          repeat (first | ((first | refine zs1 ?_ | refine zs2 ?_ | refine zs3 ?_ | refine zs4 ?_ | refine zs5 ?_ | refine zs6 [] ?_); conv => whnf))
                          refine VBegin.intro (get_out hlp _) rfl ?_
                          conv => whnf
                          repeat' (first | ((first | refine zs1 ?_ | refine zs2 ?_ | refine zs3 ?_ | refine zs4 ?_ | refine zs5 ?_); conv => whnf) | ((first | apply zi1 | apply zi2 | apply zi3 | apply zi4 | apply zi5) <;> intro _ <;> first | (exfalso; omega) | contradiction | (conv => whnf)) | (refine VLd.cell rfl rfl (get_setO (by decide) j1 _) rfl ?_; conv => whnf) | (refine VLd.recc encI_len q 0 rfl rfl (get_setO (by decide) j2 _) hb (by decide) rfl (by simp) ?_; conv => whnf) | (refine VAny.ix encI_len q rfl rfl hy ?_; conv => whnf) | (refine VMem.setRec encI_len q 0 ((st : Int) + 1) rfl rfl (get_setO (by decide) j2 _) hb (by decide) rfl (by simp) ?_; conv => whnf))
                          all_goals (
                            refine RFin.on (get_outNe (by decide) (outW_get _ _ _ _)) (VOut.liftS ?_ (Hp.grows_set _ _ _))
                            rw [lift_set n1]
                            exact outer_fix1 (get_out hlp []) (by decide))
                      · rw [Hp.get_set _ _ _ _ n1, if_neg (by decide)]; exact j1
                      · rw [Hp.get_set _ _ _ _ n1, if_pos rfl]
                      · rw [Hp.get_set _ _ _ _ n1, if_neg (by decide)]; exact j3
                      · rw [Hp.get_set _ _ _ _ n1, if_neg (by decide)]; exact hlp
                    · rw [if_neg hput]
                      have h8 : ¬ (b = -1 ∧ (y = 0 ∨ y = 3)) := fun hh => hput ⟨by rw [← hbe]; exact hh.1, hopn.2 hh.2⟩
                      clear hput hopn hye hbe
                      refine ⟨g, ?_, ⟨j0, j1, j2, j3⟩, hlp⟩
                      · refine VRound.vy' hlp rfl rfl rfl g.grows_refl fun l0 => ?_
                        refine VRound.tell [(1, .fp [DI W, DI mh, dints c, DI s]), (4, .ptr (.out (.loc 0)) 0), (7, .fp [DI st]), (65, I q)] ?_ ?_
                        · conv => whnf
                          refine Retell.turn ⟨[], 0, [], []⟩ (TurnOk.mk' _ _ [] [] (OutOk.lift _) rfl (by decide) zb trivial trivial rfl) zw zm
                        · conv => whnf
                          repeat (first | ((first | refine zs1 ?_ | refine zs2 ?_ | refine zs3 ?_ | refine zs4 ?_ | refine zs5 ?_ | refine zs6 [] ?_); conv => whnf))
                          refine VBegin.intro (get_out hlp _) rfl ?_
                          conv => whnf
                          repeat' (first | ((first | refine zs1 ?_ | refine zs2 ?_ | refine zs3 ?_ | refine zs4 ?_ | refine zs5 ?_); conv => whnf) | ((first | apply zi1 | apply zi2 | apply zi3 | apply zi4 | apply zi5) <;> intro _ <;> first | (exfalso; omega) | contradiction | (conv => whnf)) | (refine VLd.cell rfl rfl (get_setO (by decide) j1 _) rfl ?_; conv => whnf) | (refine VLd.recc encI_len q 0 rfl rfl (get_setO (by decide) j2 _) hb (by decide) rfl (by simp) ?_; conv => whnf) | (refine VAny.ix encI_len q rfl rfl hy ?_; conv => whnf))
                          all_goals first
                            | exact RFin.on (outW_get _ _ _ _) (VOut.back (get_out hlp []) rfl)
                            | (exfalso; omega)
                  · rintro ⟨go, gl⟩ ⟨j0, j1, j2, j3⟩ hlp
                    dsimp only at j0
                    subst j0
                    rw [nbF_all, ← hSn] at j2
                    obtain ⟨U, hU⟩ : ∃ U, U = stepK c W s T0 st (n + 1) := ⟨_, rfl⟩
                    rw [← hU] at j2
                    have j1 : gl[0]? = some _ := j1
                    have j2 : gl[1]? = some _ := j2
                    have j3 : gl[2]? = some _ := j3
                    have l0 := (List.getElem?_eq_some_iff.1 j1).1
                    have l1 := (List.getElem?_eq_some_iff.1 j2).1
                    have key : ∀ (x : Nat) (A : Blk), x ≠ 3 → (gl.set 3 A)[x]? = gl[x]? := fun x A hx => List.getElem?_set_ne (Ne.symm hx)
                    refine Told.mk [(1, .fp [DI W, DI mh, dints c, DI s]), (3, .func (.func 60) [.agg [I W, I mh, ints c, I s]] []), (4, .ptr (.loc 0) 0), (38, I c.length), (39, I st), (7, .fp [DI st]), (45, I c.length), (46, I n)] [.cells true [.gl (.loc 1) 1 c.length], .flat true (U.flatMap encI)] (marks' := []) ?_ ?_
                    · conv => whnf
                      refine Retell.turn ⟨[0, 1], gl.length, [], []⟩ (TurnOk.mk' _ _ [] [] (OutOk.lift _) (Nat.ble_eq_true_of_le (by simp)) (by simp) (BTos.cells (blt_of l0) ((key 0 _ (by decide)).trans j1) rfl zw (BTos.flat (blt_of l1) ((key 1 _ (by decide)).trans j2) rfl BTos.nil)) trivial trivial rfl) zw (MkTo.drop (show 2 ∉ ([0, 1] : List Nat) by decide) ((key 2 _ (by decide)).trans j3) MkTo.nil)
                    · conv => whnf
                      repeat' (first | ((first | refine zs1 ?_ | refine zs2 ?_ | refine zs3 ?_ | refine zs4 ?_ | refine zs5 ?_ | refine zs6 [] ?_); conv => whnf) | ((first | apply zi1 | apply zi2 | apply zi3 | apply zi4 | apply zi5) <;> intro _ <;> conv => whnf))
                      refine LEnd.intro (n + 1) (by omega) (by omega) ?_
                      rw [← hU]
                      conv => whnf
                      refine Retell.turn ⟨[0,1], 2, [], []⟩ (TurnOk.mk' _ _ [] [] (OutOk.lift _) rfl (by decide) zb trivial trivial rfl) zw zm
              · rw [if_neg hcond] at hSn
                have hno : ¬ (a = st ∧ (x = 0 ∨ x = s)) := fun hh => hcond ⟨by rw [← hae]; exact hh.1, hthr.2 hh.2⟩
                clear hcond hxe hae
                by_cases hth : x = 0 ∨ x = s
                · rw [decide_eq_true hth] at cTn
                  conv => whnf
                  repeat' (first | ((first | refine zs1 ?_ | refine zs2 ?_ | refine zs3 ?_ | refine zs4 ?_ | refine zs5 ?_); conv => whnf) | ((first | apply zi1 | apply zi2 | apply zi3 | apply zi4 | apply zi5) <;> intro _ <;> conv => whnf))
                  all_goals try (exfalso; omega)
                  refine zs6 [] ?_
                  conv => whnf
                  repeat' (first | ((first | refine zs1 ?_ | refine zs2 ?_ | refine zs3 ?_ | refine zs4 ?_ | refine zs5 ?_); conv => whnf) | ((first | apply zi1 | apply zi2 | apply zi3 | apply zi4 | apply zi5) <;> intro _ <;> first | (exfalso; omega) | contradiction | (conv => whnf)) | (refine VLd.recc encI_len n 0 rfl rfl rfl ha (by decide) rfl (by simp) ?_; conv => whnf) | (refine VCall.intro (cTn _) ?_; conv => whnf) | (refine VCall.intro (cB n _) ?_; conv => whnf))
                  all_goals first
                    | (exfalso; omega)
                    | (refine LEnd.intro (n + 1) (by omega) (by omega) ?_
                       rw [hSn]
                       conv => whnf
                       refine Retell.turn ⟨[0,1], 2, [], []⟩ (TurnOk.mk' _ _ [] [] (OutOk.lift _) rfl (by decide) zb trivial trivial rfl) zw zm)
                · rw [decide_eq_false hth] at cTn
                  conv => whnf
                  repeat' (first | ((first | refine zs1 ?_ | refine zs2 ?_ | refine zs3 ?_ | refine zs4 ?_ | refine zs5 ?_); conv => whnf) | ((first | apply zi1 | apply zi2 | apply zi3 | apply zi4 | apply zi5) <;> intro _ <;> conv => whnf))
                  all_goals try (exfalso; omega)
                  refine zs6 [] ?_
                  conv => whnf
                  repeat' (first | ((first | refine zs1 ?_ | refine zs2 ?_ | refine zs3 ?_ | refine zs4 ?_ | refine zs5 ?_); conv => whnf) | ((first | apply zi1 | apply zi2 | apply zi3 | apply zi4 | apply zi5) <;> intro _ <;> first | (exfalso; omega) | contradiction | (conv => whnf)) | (refine VLd.recc encI_len n 0 rfl rfl rfl ha (by decide) rfl (by simp) ?_; conv => whnf) | (refine VCall.intro (cTn _) ?_; conv => whnf) | (refine VCall.intro (cB n _) ?_; conv => whnf))
                  all_goals first
                    | (exfalso; omega)
                    | (refine LEnd.intro (n + 1) (by omega) (by omega) ?_
                       rw [hSn]
                       conv => whnf
                       refine Retell.turn ⟨[0,1], 2, [], []⟩ (TurnOk.mk' _ _ [] [] (OutOk.lift _) rfl (by decide) zb trivial trivial rfl) zw zm)
            · obtain rfl : n = c.length := by omega
              rw [← hB]
              conv => whnf
              repeat' (first | ((first | refine zs1 ?_ | refine zs2 ?_ | refine zs3 ?_ | refine zs4 ?_ | refine zs5 ?_); conv => whnf) | ((first | apply zi1 | apply zi2 | apply zi3 | apply zi4 | apply zi5) <;> intro _ <;> first | (exfalso; omega) | contradiction | (conv => whnf)))
              refine LEnd.intro (st + 1) (by omega) (by omega) ?_
              generalize bfsK c W s (st + 1) = T
              conv => whnf
              refine Retell.turn ⟨[0,1], 2, [], []⟩ (TurnOk.mk' _ _ [] [] (OutOk.lift _) rfl (by decide) zb trivial trivial rfl) zw zm
        · obtain rfl : st = c.length := by omega
          rw [show bfsK c W s c.length = R by rw [hR]; rfl]
          conv => whnf
          repeat' (first | ((first | refine zs1 ?_ | refine zs2 ?_ | refine zs3 ?_ | refine zs4 ?_ | refine zs5 ?_); conv => whnf) | ((first | apply zi1 | apply zi2 | apply zi3 | apply zi4 | apply zi5) <;> intro _ <;> first | (exfalso; omega) | contradiction | (conv => whnf)))
          rw [show ints R = .fs 1 c.length (R.flatMap encI) by unfold ints; rw [hRl]]
          have hRf : (R.flatMap encI).length = c.length * 1 := by rw [flat_len encI_len, hRl]
          refine VOut.data 2 [(1, R.flatMap encI)] [] rfl zf (by exact FmAll.nil) zw
end Go.Proofs.YtlgdkljiilbooaaGreat

open Go.Vm
open Riv
namespace Go.Proofs.YtlgdkljiilbooaaGreat
set_option maxRecDepth 20000
set_option maxHeartbeats 4000000

theorem ofs (k : Nat) : ((k : Nat) : Int).toNat * (0 + 1) = k * 1 + 0 := by simp
end Go.Proofs.YtlgdkljiilbooaaGreat

open Go.Vm
open Riv
namespace Go.Proofs.YtlgdkljiilbooaaGreat
set_option maxRecDepth 20000
set_option maxHeartbeats 4000000
theorem MOk.le {W H : Nat} {c : List Int} (o : MOk W H c) : c.length ≤ 144 := by
  rw [o.len]
  exact Nat.le_trans (Nat.mul_le_mul o.w.2 o.h.2) (by decide)
end Go.Proofs.YtlgdkljiilbooaaGreat

open Go.Vm
open Riv
namespace Go.Proofs.YtlgdkljiilbooaaGreat
set_option maxRecDepth 20000
set_option maxHeartbeats 4000000

/-! ### Tables of any numbers: a sum that wraps never helps one to hold -/
abbrev wr (n : Int) : Int := IntKind.i64.wrap n
end Go.Proofs.YtlgdkljiilbooaaGreat

open Go.Vm
open Riv
namespace Go.Proofs.YtlgdkljiilbooaaGreat
set_option maxRecDepth 20000
set_option maxHeartbeats 4000000

structure GJ (o : Vm.Id → Option Blk) (l : List Int) (g : Hp) : Prop where
  o : g.outer = o
  li : ∃ m, (m = 1 ∨ 4 ≤ m) ∧ g.get (.loc 0) = some (.cells true [.gl (.loc m) 1 l.length]) ∧ g.get (.loc m) = some (.flat true (l.flatMap encI))
  b2 : g.get (.loc 2) = some .mark
def upG (m : Nat) (b : Blk) : List (Vm.Id × Blk) := [(.loc m, .dead), (.loc 0, b)]
theorem upG_ok {m : Nat} {b b' b2 : Blk} {g : Hp} (jm : g.get (.loc m) = some b2) (j0 : g.get (.loc 0) = some b') : ∀ p ∈ upG m b, g.get p.1 ≠ none := by
  intro p hp
  simp only [upG, List.mem_cons, List.not_mem_nil, or_false] at hp
  rcases hp with rfl | rfl <;> simp only
  · rw [jm]; simp
  · rw [j0]; simp
theorem GJ.step {o : Vm.Id → Option Blk} {l : List Int} {e : Int} {g : Hp} {m : Nat} (jo : g.outer = o) (j0 : g.get (.loc 0) = some (.cells true [.gl (.loc m) 1 l.length])) (jm : g.get (.loc m) = some (.flat true (l.flatMap encI))) (j2 : g.get (.loc 2) = some .mark) (hm : m = 1 ∨ 4 ≤ m) {b6 : Blk} (j3 : g.get (.loc 3) = some b6) :
    g.grows ((g.sets (upG m (.cells true [.gl g.fresh 1 (l.length + 1)]))).pushes [.flat true ((l ++ [e]).flatMap encI)]) ∧
    GJ o (l ++ [e]) ((g.sets (upG m (.cells true [.gl g.fresh 1 (l.length + 1)]))).pushes [.flat true ((l ++ [e]).flatMap encI)]) ∧
    ((g.sets (upG m (.cells true [.gl g.fresh 1 (l.length + 1)]))).pushes [.flat true ((l ++ [e]).flatMap encI)]).get (.loc 3) = some b6 := by
  have hgr := Hp.grows_sets (news := [.flat true ((l ++ [e]).flatMap encI)]) (upG_ok (b := .cells true [.gl g.fresh 1 (l.length + 1)]) jm j0)
  obtain ⟨go, gl⟩ := g
  simp only [Hp.get] at j0 j2 jm j3
  have l0 := (List.getElem?_eq_some_iff.1 j0).1
  have l2 := (List.getElem?_eq_some_iff.1 j2).1
  have l3 := (List.getElem?_eq_some_iff.1 j3).1
  have key : ∀ y, y < gl.length → y ≠ m → y ≠ 0 → ∀ (A B G : Blk), (((gl.set m A).set 0 B) ++ [G])[y]? = gl[y]? := by
    intro y hy h1 h2 A B G
    rw [List.getElem?_append_left (by simpa using hy), List.getElem?_set_ne (Ne.symm h2), List.getElem?_set_ne (Ne.symm h1)]
  refine ⟨hgr, ⟨jo, ⟨gl.length, .inr (by omega), ?_, ?_⟩, ?_⟩, ?_⟩
  · show (((gl.set m _).set 0 _) ++ [_])[0]? = _
    rw [List.getElem?_append_left (by simpa using l0), List.getElem?_set_self (by simpa using l0)]
    simp [Hp.fresh]
  · show (((gl.set m _).set 0 _) ++ [_])[gl.length]? = _
    rw [List.getElem?_append_right (by simp)]
    simp
  · exact (key 2 l2 (by omega) (by omega) _ _ _).trans j2
  · exact (key 3 l3 (by omega) (by omega) _ _ _).trans j3
end Go.Proofs.YtlgdkljiilbooaaGreat

open Go.Vm
open Riv
namespace Go.Proofs.YtlgdkljiilbooaaGreat
set_option maxRecDepth 20000
set_option maxHeartbeats 4000000

structure Rvd (l : List Int) (k : Nat) (m : List Int) : Prop where
  len : m.length = l.length
  le : 2 * k ≤ l.length + 1
  at' : ∀ j, j < l.length → m[j]? = if j < k ∨ l.length - k ≤ j then l[l.length - 1 - j]? else l[j]?
theorem Rvd.step {l m : List Int} {k : Nat} {a b : Int} (h : Rvd l k m) (hk : 2 * k + 1 < l.length) (ha : m[k]? = some a) (hb : m[l.length - 1 - k]? = some b) : Rvd l (k + 1) ((m.set k b).set (l.length - 1 - k) a) where
  len := by simp [h.len]
  le := by omega
  at' := fun j hj => by
    have hl := h.len
    have e1 := h.at' k (by omega)
    have e2 := h.at' (l.length - 1 - k) (by omega)
    rw [ha, if_neg (by omega)] at e1
    rw [hb, if_neg (by omega)] at e2
    rw [List.getElem?_set, List.length_set]
    by_cases h1 : l.length - 1 - k = j
    · rw [if_pos h1, if_pos (by omega), if_pos (by omega), e1]
      congr 1; omega
    · rw [if_neg h1, List.getElem?_set]
      by_cases h2 : k = j
      · rw [if_pos h2, if_pos (by omega), if_pos (by omega), e2]
        subst h2; rfl
      · rw [if_neg h2, h.at' j hj]
        have : (j < k ∨ l.length - k ≤ j) ↔ (j < k + 1 ∨ l.length - (k + 1) ≤ j) := by omega
        simp only [this]
/-! ### Ways -/
def natI (l : List Nat) : List Int := l.map fun n : Nat => (n : Int)
end Go.Proofs.YtlgdkljiilbooaaGreat

open Go.Vm
open Riv
namespace Go.Proofs.YtlgdkljiilbooaaGreat
set_option maxRecDepth 20000
set_option maxHeartbeats 4000000
theorem natI_at {ks : List Nat} {i : Nat} (hi : i < ks.length) : (natI ks)[i]? = some ((ks.getD i 0 : Nat) : Int) := by
  unfold natI
  rw [List.getElem?_map, List.getD_eq_getElem?_getD, List.getElem?_eq_getElem hi]; rfl
theorem natI_len (ks : List Nat) : (natI ks).length = ks.length := by unfold natI; rw [List.length_map]
end Go.Proofs.YtlgdkljiilbooaaGreat

open Go.Vm
open Riv
namespace Go.Vm
theorem VCut.atO {P : Program} {ro : Option Nat} {c : Code} {n : Nat} {fr : Fr} {outer0 : Id → Option Blk} {loc0 : List Blk} {marks : List Id} {Q : X → St → Prop} (m : Nat) (slots : List (Nat × V)) (outer : Id → Option Blk) (loc : List Blk) (ho : outer0 = outer)
    (hst : frSK slots .leaf fun fr' => Retell isOut ⟨n, fr, ⟨outer, loc0⟩, marks⟩ ⟨n, fr', ⟨outer, loc⟩, marks⟩)
    (hb : frSK slots .leaf fun fr' => vcut P ro isOut m c ⟨n, fr', ⟨outer, loc⟩, marks⟩ Q) : VCut P ro isOut c ⟨n, fr, ⟨outer0, loc0⟩, marks⟩ Q := by
  subst ho
  exact VCut.at' m slots loc hst hb
end Go.Vm
namespace Go.Proofs.YtlgdkljiilbooaaGreat
set_option maxRecDepth 20000
set_option maxHeartbeats 4000000

def encB (b : Bool) : List D := [DB b]
theorem encB_len (b : Bool) : (encB b).length = 1 := rfl
def bools (l : List Bool) : V := .fs 1 l.length (l.flatMap encB)
def dbools (l : List Bool) : D := .sl 1 l.length (l.flatMap encB)
def metB (L : Nat) (M : List Nat) : List Bool := (List.range L).map fun k => decide (k ∈ M)
theorem metB_len (L : Nat) (M : List Nat) : (metB L M).length = L := by simp [metB]
theorem metB_at {L k : Nat} (M : List Nat) (hk : k < L) : (metB L M)[k]? = some (decide (k ∈ M)) := by
  unfold metB; rw [List.getElem?_map, List.getElem?_range hk]; rfl
theorem metB_nil (L : Nat) : metB L [] = List.replicate L false := by
  apply List.ext_getElem?
  intro k
  rcases Nat.lt_or_ge k L with h | h
  · rw [metB_at [] h, List.getElem?_replicate, if_pos h]; simp
  · rw [List.getElem?_eq_none (by rw [metB_len]; exact h), List.getElem?_eq_none (by simpa using h)]
theorem metB_set {L n : Nat} (M : List Nat) (hn : n < L) : (metB L M).set n true = metB L (M ++ [n]) := by
  apply List.ext_getElem?
  intro k
  rcases Nat.lt_or_ge k L with h | h
  · rw [metB_at _ h]
    by_cases e : n = k
    · subst e
      rw [List.getElem?_set_self (by rw [metB_len]; exact h)]; simp
    · rw [List.getElem?_set_ne e, metB_at _ h]
      have : (k ∈ M ++ [n]) ↔ k ∈ M := by simp; exact fun e2 => absurd e2.symm e
      simp only [this]
  · rw [List.getElem?_eq_none (by rw [List.length_set, metB_len]; exact h), List.getElem?_eq_none (by rw [metB_len]; exact h)]
def folS (mk : List Bool) (rec : Nat → List Nat → List Nat) (M : List Nat) (k : Nat) : List Nat := if k ∉ M ∧ bat mk k = true then rec k M else M
theorem folL_fold (mk : List Bool) (rec : Nat → List Nat → List Nat) : ∀ (ks M : List Nat), ks.foldl (folS mk rec) M = folL mk rec ks M
  | [], _ => rfl
  | k :: ks, M => by
    rw [List.foldl_cons, folL_fold mk rec ks, folL]
    unfold folS
    split <;> rfl
structure MI (L : Nat) (M1 M : List Nat) : Prop where
  pre : M1 <+: M
  nd : M.Nodup
  lt : ∀ x ∈ M, x < L
theorem MI.len {L : Nat} {M1 M : List Nat} (h : MI L M1 M) : M1.length ≤ M.length ∧ M.length ≤ L := ⟨h.pre.length_le, nodup_len L M h.nd h.lt⟩
theorem folW_mi {mk : List Bool} {W H N n : Nat} {M : List Nat} (hW : 2 ≤ W) (hL : mk.length = W * H) (h1 : bat mk n = true) (h2 : n ∉ M) (h3 : M.Nodup) (h4 : ∀ x ∈ M, x < mk.length) (h5 : mk.length ≤ N + M.length) : MI mk.length M (folW mk W N n M) ∧ n ∈ folW mk W N n M := by
  have h := folW_ok hW hL N n M h1 h2 h3 h4 h5
  refine ⟨⟨h.pre, h.nd, fun x hx => ?_⟩, h.own⟩
  by_cases hm : x ∈ M
  · exact h4 x hm
  · exact bat_lt (h.mrk x hx hm).1
theorem nbM_ok {mk : List Bool} {W H N n : Nat} {M1 : List Nat} (hW : 2 ≤ W) (hL : mk.length = W * H) (h0 : MI mk.length M1 M1) (h5 : mk.length ≤ N + M1.length) : ∀ k, k ≤ 4 → MI mk.length M1 (nbF (folS mk (folW mk W N)) W mk.length n M1 k)
  | 0, _ => h0
  | k + 1, hk => by
    have ih := nbM_ok (n := n) hW hL h0 h5 k (by omega)
    cases hq : nbO W mk.length n k with
    | none => rw [nbF_none hq]; exact ih
    | some q =>
      rw [nbF_some hq]
      generalize nbF (folS mk (folW mk W N)) W mk.length n M1 k = U at ih
      unfold folS
      split
      · rename_i hc
        have h := (folW_mi hW hL (N := N) hc.2 hc.1 ih.nd ih.lt (by have := ih.len.1; omega)).1
        exact ⟨ih.pre.trans h.pre, h.nd, h.lt⟩
      · exact ih
def ownF (own : List Int) (M R : List Nat) : List Int := own ++ natI (R.drop M.length)
theorem ownF_len (own : List Int) {M R : List Nat} (h : M.length ≤ R.length) : (ownF own M R).length = own.length + (R.length - M.length) := by
  unfold ownF; rw [List.length_append, natI_len, List.length_drop]
theorem ownF_one (own : List Int) (M : List Nat) (n : Nat) : ownF own M (M ++ [n]) = own ++ [(n : Int)] := by
  unfold ownF
  rw [List.drop_append_of_le_length (Nat.le_refl _), List.drop_of_length_le (Nat.le_refl _)]; rfl
theorem ownF_ownF (own : List Int) {M R S : List Nat} (h1 : M <+: R) (h2 : R <+: S) : ownF (ownF own M R) R S = ownF own M S := by
  obtain ⟨a, rfl⟩ := h1
  obtain ⟨b, rfl⟩ := h2
  unfold ownF natI
  simp
def oF (o : Vm.Id → Option Blk) (mI oI : Vm.Id) (L : Nat) (M : List Nat) : Vm.Id → Option Blk := outW (outW o mI (.flat true ((metB L M).flatMap encB))) oI .dead
theorem oF_set {o : Vm.Id → Option Blk} {mI oI : Vm.Id} {L : Nat} {M R : List Nat} (hne : mI ≠ oI) : outW (oF o mI oI L M) mI (.flat true ((metB L R).flatMap encB)) = oF o mI oI L R := by
  unfold oF
  rw [outW_comm (o := outW o mI _) (i := oI) (j := mI) (fun e => hne e.symm), outW_same]
theorem oF_met {o : Vm.Id → Option Blk} {mI oI : Vm.Id} {L : Nat} {M : List Nat} (hne : mI ≠ oI) (loc : List Blk) : (⟨oF o mI oI L M, loc⟩ : Hp).get (.out mI) = some (.flat true ((metB L M).flatMap encB)) := by
  show oF o mI oI L M mI = _
  unfold oF outW
  rw [if_neg hne, if_pos rfl]
theorem oF_oth {o : Vm.Id → Option Blk} {mI oI i : Vm.Id} {L : Nat} {M : List Nat} {r : Option Blk} (h1 : i ≠ mI) (h2 : i ≠ oI) (loc : List Blk) (h : o i = r) : (⟨oF o mI oI L M, loc⟩ : Hp).get (.out i) = r := by
  show oF o mI oI L M i = _
  unfold oF outW
  rw [if_neg h2, if_neg h1]; exact h
theorem OutOk.oF {h : Hp} {mI oI : Vm.Id} {L : Nat} {M : List Nat} : OutOk (oF h.lift mI oI L M) := OutOk.outW (OutOk.outW (OutOk.lift _) rfl) rfl
def upF (mI : Vm.Id) (L : Nat) (R : List Nat) (m : Nat) (b : Blk) : List (Vm.Id × Blk) := [(.out mI, .flat true ((metB L R).flatMap encB)), (.loc m, .dead), (.loc 0, b)]
theorem upF_ok {mI : Vm.Id} {L m : Nat} {R : List Nat} {b b0 b' b2 : Blk} {g : Hp} (jI : g.get (.out mI) = some b0) (jm : g.get (.loc m) = some b2) (j0 : g.get (.loc 0) = some b') : ∀ p ∈ upF mI L R m b, g.get p.1 ≠ none := by
  intro p hp
  simp only [upF, List.mem_cons, List.not_mem_nil, or_false] at hp
  rcases hp with rfl | rfl | rfl <;> simp only
  · rw [jI]; simp
  · rw [jm]; simp
  · rw [j0]; simp
theorem FJ.step {o : Vm.Id → Option Blk} {mI oI : Vm.Id} {L : Nat} {M R : List Nat} {l l' : List Int} {g : Hp} {m : Nat} (hne : mI ≠ oI) (jo : g.outer = oF o mI oI L M) (j0 : g.get (.loc 0) = some (.cells true [.gl (.loc m) 1 l.length])) (jm : g.get (.loc m) = some (.flat true (l.flatMap encI))) (j2 : g.get (.loc 2) = some .mark) (hm : m = 1 ∨ 4 ≤ m) {b6 : Blk} (j3 : g.get (.loc 3) = some b6) :
    g.grows ((g.sets (upF mI L R m (.cells true [.gl g.fresh 1 l'.length]))).pushes [.flat true (l'.flatMap encI)]) ∧
    GJ (oF o mI oI L R) l' ((g.sets (upF mI L R m (.cells true [.gl g.fresh 1 l'.length]))).pushes [.flat true (l'.flatMap encI)]) ∧
    ((g.sets (upF mI L R m (.cells true [.gl g.fresh 1 l'.length]))).pushes [.flat true (l'.flatMap encI)]).get (.loc 3) = some b6 := by
  obtain ⟨go, gl⟩ := g
  dsimp only at jo
  subst jo
  have jI := oF_met (o := o) (L := L) (M := M) hne gl
  have hgr := Hp.grows_sets (news := [.flat true (l'.flatMap encI)]) (upF_ok (L := L) (R := R) (b := .cells true [.gl (Hp.fresh ⟨oF o mI oI L M, gl⟩) 1 l'.length]) jI jm j0)
  simp only [Hp.get] at j0 j2 jm j3
  have l0 := (List.getElem?_eq_some_iff.1 j0).1
  have l2 := (List.getElem?_eq_some_iff.1 j2).1
  have l3 := (List.getElem?_eq_some_iff.1 j3).1
  have key : ∀ y, y < gl.length → y ≠ m → y ≠ 0 → ∀ (A B G : Blk), (((gl.set m A).set 0 B) ++ [G])[y]? = gl[y]? := by
    intro y hy h1 h2 A B G
    rw [List.getElem?_append_left (by simpa using hy), List.getElem?_set_ne (Ne.symm h2), List.getElem?_set_ne (Ne.symm h1)]
  refine ⟨hgr, ⟨?_, ⟨gl.length, .inr (by omega), ?_, ?_⟩, ?_⟩, ?_⟩
  · exact oF_set hne
  · show (((gl.set m _).set 0 _) ++ [_])[0]? = _
    rw [List.getElem?_append_left (by simpa using l0), List.getElem?_set_self (by simpa using l0)]
    simp [Hp.fresh]
  · show (((gl.set m _).set 0 _) ++ [_])[gl.length]? = _
    rw [List.getElem?_append_right (by simp)]
    simp
  · exact (key 2 l2 (by omega) (by omega) _ _ _).trans j2
  · exact (key 3 l3 (by omega) (by omega) _ _ _).trans j3
end Go.Proofs.YtlgdkljiilbooaaGreat

open Go.Vm
open Riv
namespace Go.Proofs.YtlgdkljiilbooaaGreat
set_option maxRecDepth 20000
set_option maxHeartbeats 4000000

theorem vc_isl1 (x : Int) (h : Hp) : VC Tryz.prog 65 [I x] h (B (decide (x = 3))) h := by
  refine VC.body Tryz.func65 rfl Tryz.ntmps65 Tryz.call65 (h.grows_refl) rfl ?_; conv => whnf
  repeat' (first | ((first | refine zs1 ?_ | refine zs2 ?_ | refine zs3 ?_ | refine zs4 ?_ | refine zs5 ?_ | refine zs6 [] ?_); conv => whnf) | ((first | apply zi1 | apply zi2 | apply zi3 | apply zi4 | apply zi5) <;> intro _ <;> conv => whnf))
  refine VOut.same ?_
  have : (x == 3) = decide (x = 3) := by rw [Bool.eq_iff_iff, decide_eq_true_eq, beq_iff_eq]
  simp only [V.ren, this]
def vFolI (w hh : Int) (c : List Int) (mC fC : Vm.Id) : V := .func (.func 80) [] [.ptr mC 0, .fp [DI w, DI hh, dints c], .fp [.func (.func 65) [] []], .fp [dints c], .ptr fC 0]
structure MemI (w hh : Int) (c : List Int) (mC mI fC : Vm.Id) (M : List Nat) (h : Hp) : Prop where
  mc : h.get mC = some (.cells true [.gl mI 1 c.length])
  mi : h.get mI = some (.flat true ((metB c.length M).flatMap encB))
  fc : h.get fC = some (.cells true [vFolI w hh c mC fC])
structure DjtI (mC mI fC oI : Vm.Id) : Prop where
  cI : mC ≠ mI
  co : mC ≠ oI
  fI : fC ≠ mI
  fo : fC ≠ oI
  Io : mI ≠ oI
def effI (h : Hp) (mI oI : Vm.Id) (L : Nat) (R : List Nat) (l : List Int) : Hp := (h.sets [(mI, .flat true ((metB L R).flatMap encB)), (oI, .dead)]).pushes [.flat true (l.flatMap encI)]
theorem vc_folI {W H : Nat} (m : Mp) (o : MOk W H m.c) (hw : m.w = W) : ∀ (N n : Nat) (M : List Nat) (own : List Int) (mC mI fC oI : Vm.Id) (h : Hp), bat (marks m.c) n = true → n ∉ M → M.Nodup → (∀ x ∈ M, x < m.c.length) → m.c.length ≤ N + M.length → own.length ≤ M.length →
    MemI m.w m.h m.c mC mI fC M h → h.get oI = some (.flat true (own.flatMap encI)) → DjtI mC mI fC oI →
    VC Tryz.prog 80 [I n, .gl oI 1 own.length, .ptr mC 0, .fp (encM m), .fp [.func (.func 65) [] []], .fp [dints m.c], .ptr fC 0] h (.gl h.fresh 1 (ownF own M (folW (marks m.c) W N n M)).length) (effI h mI oI m.c.length (folW (marks m.c) W N n M) (ownF own M (folW (marks m.c) W N n M)))
  | 0, n, M, own, mC, mI, fC, oI, h, h1, h2, h3, h4, h5, h6, h7, h8, h9 => by
    have h10 := nodup_len m.c.length (M ++ [n]) (by
      rw [List.nodup_append]
      exact ⟨h3, by simp, fun a ha b hb => by simp at hb; subst hb; intro e; subst e; exact h2 ha⟩) fun x hx => by
      rcases List.mem_append.1 hx with hx | hx
      · exact h4 x hx
      · simp at hx; subst hx; have := bat_lt h1; rw [marks_len] at this; exact this
    rw [List.length_append, List.length_singleton] at h10
    omega
  | N + 1, n, M, own, mC, mI, fC, oI, h, h1, h2, h3, h4, h5, h6, h7, h8, h9 => by
    have IH := fun n M own mC mI fC oI h => vc_folI m o hw N n M own mC mI fC oI h
    have hWb := o.w
    have hHb := o.h
    have hL := o.len
    have hm144 := MOk.le o
    have cB := fun n h => vc_beside m n h
    have itB := fun n hn => iter_beside m W n (by omega) hw hn (by omega)
    have hmkl := marks_len m.c
    have hnl := bat_lt h1
    have hR : folW (marks m.c) W (N + 1) n M = folL (marks m.c) (folW (marks m.c) W N) (nbs W (marks m.c).length n) (M ++ [n]) := rfl
    rw [← folL_fold, ← nbF_all] at hR
    have hmi0 : MI (marks m.c).length (M ++ [n]) (M ++ [n]) := by
      refine ⟨List.prefix_refl _, ?_, fun x hx => ?_⟩
      · rw [List.nodup_append]
        exact ⟨h3, by simp, fun a ha b hb => by simp at hb; subst hb; intro e; subst e; exact h2 ha⟩
      · rcases List.mem_append.1 hx with hx | hx
        · rw [hmkl]; exact h4 x hx
        · simp at hx; subst hx; exact hnl
    have hMI := fun j hj => nbM_ok (mk := (marks m.c)) (N := N) (n := n) (W := W) (H := H) (by omega) (by rw [hmkl]; exact hL) hmi0 (by rw [List.length_append, List.length_singleton, hmkl]; omega) j hj
    have hMl : (M ++ [n]).length = M.length + 1 := by simp
    have hfo : ∀ k M, bat (marks m.c) k = true → k ∉ M → M.Nodup → (∀ x ∈ M, x < (marks m.c).length) → (marks m.c).length ≤ N + M.length → M <+: folW (marks m.c) W N k M := fun k M a1 a2 a3 a4 a5 => (folW_mi (by omega) (by rw [hmkl]; exact hL) a1 a2 a3 a4 a5).1.pre
    have hpre0 : M <+: M ++ [n] := List.prefix_append _ _
    obtain ⟨R, hRe⟩ : ∃ R, R = folW (marks m.c) W (N + 1) n M := ⟨_, rfl⟩
    rw [← hRe] at hR ⊢
    clear hRe
    have hset := metB_set (L := m.c.length) M (n := n) (by omega)
    have hmat := metB_at (L := m.c.length) (k := n) M (by omega)
    have hown1 := ownF_one own M n
    have hgrow : h.grows (effI h mI oI m.c.length R (ownF own M R)) := by
      refine Hp.grows_sets fun e he => ?_
      simp only [List.mem_cons, List.not_mem_nil, or_false] at he
      rcases he with rfl | rfl <;> simp only
      · rw [h7.mi]; simp
      · rw [h8]; simp
    obtain ⟨mw, mh, c⟩ := m
    dsimp only at *
    subst hw
    show VC Tryz.prog 80 [I n, .gl oI 1 own.length, .ptr mC 0, .fp [DI W, DI mh, dints c], .fp [.func (.func 65) [] []], .fp [dints c], .ptr fC 0] h _ _
    refine VC.bodyC 3 Tryz.func80 rfl Tryz.ntmps80 Tryz.call80 hgrow rfl ?_
    conv => whnf
    have hno : ∀ (i : Vm.Id) (j : Nat), Vm.Id.out i ≠ .loc j := fun _ _ e => by cases e
    have hMle := hmi0.len.2
    repeat' (first | ((first | refine zs1 ?_ | refine zs2 ?_ | refine zs3 ?_ | refine zs4 ?_ | refine zs5 ?_); conv => whnf) | ((first | apply zi1 | apply zi2 | apply zi3 | apply zi4 | apply zi5) <;> intro _ <;> conv => whnf) | (refine VLd.cell rfl rfl (get_out h7.mc _) rfl ?_; conv => whnf))
    refine VMem.setRec encB_len n 0 true rfl rfl (get_out h7.mi _) hmat (by decide) rfl (ofs _) ?_
    rw [hset]
    conv => whnf
    repeat' (first | ((first | refine zs1 ?_ | refine zs2 ?_ | refine zs3 ?_ | refine zs4 ?_ | refine zs5 ?_); conv => whnf) | ((first | apply zi1 | apply zi2 | apply zi3 | apply zi4 | apply zi5) <;> intro _ <;> conv => whnf))
    refine VMem.app1B (α := Int) (l := own) (n : Int) encI_len rfl (get_outNe (fun e => h9.Io e.symm) (get_out h8 _)) rfl rfl rfl (by omega) ?_
    rw [← hown1]
    conv => whnf
    repeat' (first | ((first | refine zs1 ?_ | refine zs2 ?_ | refine zs3 ?_ | refine zs4 ?_ | refine zs5 ?_); conv => whnf) | ((first | apply zi1 | apply zi2 | apply zi3 | apply zi4 | apply zi5) <;> intro _ <;> conv => whnf))
    have hol : own.length + 1 = (ownF own M (M ++ [n])).length := by rw [hown1, List.length_append, List.length_singleton]
    refine VCut.atO (outer := oF h.lift mI oI c.length (M ++ [n])) (marks := []) 99 [(0, I n), (2, .ptr (.out mC) 0), (3, .fp [DI W, DI mh, dints c]), (4, .fp [.func (.func 65) [] []]), (5, .fp [dints c]), (6, .ptr (.out fC) 0), (8, .ptr (.loc 0) 0)] [.cells true [.gl (.loc 1) 1 (own.length + 1)], .flat true ((ownF own M (M ++ [n])).flatMap encI)] rfl ?_ ?_
    · generalize ownF own M (M ++ [n]) = o1
      conv => whnf
      refine Retell.turn ⟨[0, 2], 3, [], []⟩ (TurnOk.mk' _ _ [] [] OutOk.oF rfl (by decide) zb trivial trivial rfl) zw zm
    · conv => whnf
      repeat' (first | ((first | refine zs1 ?_ | refine zs2 ?_ | refine zs3 ?_ | refine zs4 ?_ | refine zs5 ?_); conv => whnf) | ((first | apply zi1 | apply zi2 | apply zi3 | apply zi4 | apply zi5) <;> intro _ <;> conv => whnf) | (refine VCall.intro (cB n _) ?_; conv => whnf))
      refine VCode.tell [(2, .ptr (.out mC) 0), (4, .fp [.func (.func 65) [] []]), (5, .fp [dints c]), (6, .ptr (.out fC) 0), (8, .ptr (.loc 0) 0), (20, vBes ⟨W, mh, c⟩ n)] [.cells true [.gl (.loc 1) 1 (own.length + 1)], .flat true ((ownF own M (M ++ [n])).flatMap encI)] (marks' := []) ?_ ?_
      · generalize ownF own M (M ++ [n]) = o1
        conv => whnf
        refine Retell.turn ⟨[0, 1], 2, [], []⟩ (TurnOk.mk' _ _ [] [] OutOk.oF rfl (by decide) zb trivial trivial rfl) zw zm
      · conv => whnf
        refine VCode.iterS 4 (nbY W c.length n) (fun j g => GJ (oF h.lift mI oI c.length (nbF (folS (marks c) (folW (marks c) W N)) W (marks c).length n (M ++ [n]) j)) (ownF own M (nbF (folS (marks c) (folW (marks c) W N)) W (marks c).length n (M ++ [n]) j)) g) _ (.loc 3) rfl (itB n (by omega)) rfl rfl ⟨rfl, ⟨1, .inl rfl, by rw [nbF_zero, ← hol]; rfl, rfl⟩, rfl⟩ ?_ ?_ ?_
        · rintro j g hj hy hJ
          rw [nbF_none (by rw [hmkl]; exact nbY_none hy)]; exact hJ
        · rintro j g vs hj hy hJ hlp
          obtain ⟨q, hq, rfl⟩ := nbY_some hy
          have hqc : q < c.length := by
            have := ((nbs_iff (by omega) hL (by omega)).1 (nbO_mem hj hq)).1
            exact this
          rw [← hmkl] at hq
          rw [nbF_some hq]
          have hI := hMI j (by omega)
          generalize nbF (folS (marks c) (folW (marks c) W N)) W (marks c).length n (M ++ [n]) j = Mk at hJ hI
          have hpreM : M <+: Mk := hpre0.trans hI.pre
          have hlenM := hI.len
          have hlown := ownF_len own hpreM.length_le
          have hpp := fun S (hS : Mk <+: S) => ownF_ownF own hpreM hS
          obtain ⟨jo, ⟨m, hm, j0, jm⟩, j2⟩ := hJ
          obtain ⟨l, hl0⟩ : ∃ l, l = ownF own M Mk := ⟨_, rfl⟩
          rw [← hl0] at j0 jm hlown
          simp only [← hl0] at hpp
          have kmc : g.get (.out mC) = some ((Blk.cells true [.gl mI 1 c.length]).ren .out) := by
            show g.outer mC = _
            rw [jo]; exact oF_oth h9.cI h9.co [] (get_out h7.mc [])
          have kfc : g.get (.out fC) = some ((Blk.cells true [vFolI W mh c mC fC]).ren .out) := by
            show g.outer fC = _
            rw [jo]; exact oF_oth h9.fI h9.fo [] (get_out h7.fc [])
          have kmi : g.get (.out mI) = some (.flat true ((metB c.length Mk).flatMap encB)) := by
            show g.outer mI = _
            rw [jo]; exact oF_met h9.Io []
          have hqm := metB_at Mk hqc
          have hx := at0_get hqc
          have cSq := fun h => vc_isl1 (at0 c q) h
          rw [← bat_marks] at cSq
          unfold folS
          have hm0 : Vm.Id.loc m ≠ .loc 0 := by intro h0; injection h0; omega
          have hm3 : Vm.Id.loc m ≠ .loc 3 := by intro h0; injection h0; omega
          by_cases hgo : q ∉ Mk ∧ bat (marks c) q = true
          · rw [if_pos hgo]
            rw [decide_eq_false hgo.1] at hqm
            rw [hgo.2] at cSq
            have hfp := hfo q Mk hgo.2 hgo.1 hI.nd hI.lt (by omega)
            have IHq := fun H hM hb => IH q Mk l (.out (.out mC)) (.out (.out mI)) (.out (.out fC)) (.out (.loc m)) H hgo.2 hgo.1 hI.nd (fun x hx => by have := hI.lt x hx; omega) (by omega) (by omega) hM hb ⟨fun e => h9.cI (by injection e with e; injection e), (fun e => by injection e with e; cases e), fun e => h9.fI (by injection e with e; injection e), (fun e => by injection e with e; cases e), (fun e => by injection e with e; cases e)⟩
            have hown2 := hpp _ hfp
            have hfl := hfp.length_le
            have hl2 := ownF_len l hfl
            generalize folW (marks c) W N q Mk = S at IHq hown2 hfl hl2
            rw [← hown2]
            generalize ownF l Mk S = l' at IHq hl2
            obtain ⟨s1, s2, s3⟩ := FJ.step (R := S) (l' := l') h9.Io jo j0 jm j2 hm hlp
            refine ⟨_, ?_, s2, s3⟩
            refine VRound.vy' hlp rfl rfl rfl s1 fun l0 => ?_
            refine VRound.tell [(2, .ptr (.out (.out mC)) 0), (4, .fp [.func (.func 65) [] []]), (5, .fp [dints c]), (6, .ptr (.out (.out fC)) 0), (8, .ptr (.out (.loc 0)) 0), (21, I q)] ?_ ?_
            · conv => whnf
              refine Retell.turn ⟨[], 0, [], []⟩ (TurnOk.mk' _ _ [] [] (OutOk.lift _) rfl (by decide) zb trivial trivial rfl) zw zm
            · conv => whnf
              repeat (first | ((first | refine zs1 ?_ | refine zs2 ?_ | refine zs3 ?_ | refine zs4 ?_ | refine zs5 ?_ | refine zs6 [] ?_); conv => whnf))
              refine VBegin.intro (get_out hlp _) rfl ?_
              conv => whnf
              refine zs6 [] ?_
              conv => whnf
              repeat' (first | ((first | refine zs1 ?_ | refine zs2 ?_ | refine zs3 ?_ | refine zs4 ?_ | refine zs5 ?_); conv => whnf) | ((first | apply zi1 | apply zi2 | apply zi3 | apply zi4 | apply zi5) <;> intro _ <;> conv => whnf) | (refine VLd.cell rfl rfl (get_setO (hno _ _) kmc _) rfl ?_; conv => whnf) | (refine VLd.recc encB_len q 0 rfl rfl (get_setO (hno _ _) kmi _) hqm (by decide) rfl (ofs _) ?_; conv => whnf) | (refine VAny.ix encI_len q rfl rfl hx ?_; conv => whnf) | (refine VCall.intro (cSq _) ?_; conv => whnf))
              repeat' (first | ((first | refine zs1 ?_ | refine zs2 ?_ | refine zs3 ?_ | refine zs4 ?_ | refine zs5 ?_); conv => whnf) | ((first | apply zi1 | apply zi2 | apply zi3 | apply zi4 | apply zi5) <;> intro _ <;> conv => whnf) | (refine VLd.cell rfl rfl (get_setO (hno _ _) kfc _) rfl ?_; conv => whnf) | (refine VLd.cell rfl rfl (get_setO (by decide) j0 _) rfl ?_; conv => whnf))
              refine VCall.intro (IHq _ ⟨get_setO (hno _ _) kmc _, get_setO (hno _ _) kmi _, get_setO (hno _ _) kfc _⟩ (get_setO hm3 jm _)) ?_
              conv => whnf
              repeat' (first | ((first | refine zs1 ?_ | refine zs2 ?_ | refine zs3 ?_ | refine zs4 ?_ | refine zs5 ?_); conv => whnf) | ((first | apply zi1 | apply zi2 | apply zi3 | apply zi4 | apply zi5) <;> intro _ <;> conv => whnf))
              refine VMem.st1 rfl rfl rfl (b := .cells true [.gl (.out (.loc m)) 1 l.length]) (get_outNe (fun e => hm0 e.symm) (get_outNe (fun e => by cases e) (get_setO (by decide) j0 _))) rfl ?_
              conv => whnf
              repeat' (first | ((first | refine zs1 ?_ | refine zs2 ?_ | refine zs3 ?_ | refine zs4 ?_ | refine zs5 ?_); conv => whnf) | ((first | apply zi1 | apply zi2 | apply zi3 | apply zi4 | apply zi5) <;> intro _ <;> conv => whnf))
              refine RFin.on (get_outNe (by decide) (get_outNe (fun e => hm3 e.symm) (get_outNe (fun e => by cases e) (outW_get _ _ _ _)))) ?_
              refine VOut.upd (upF mI c.length S m (.cells true [.gl g.fresh 1 l'.length])) [.flat true (l'.flatMap encI)] [0] 1 ?_ (upF_ok kmi jm j0) ?_ ?_ ?_ ?_ ?_
              · rfl
              · decide
              · rfl
              · intro k' b' hk'
                cases k' with
                | zero => rw [List.getElem?_cons_zero, Option.some.injEq] at hk'; subst hk'; exact ⟨0, rfl, rfl⟩
                | succ k' => simp at hk'
              · intro σ x hx; exact hx
              · have e1 : (Blk.cells true [V.gl g.fresh 1 l'.length]).ren (backR g.loc.length [0] 1) = .cells true [.gl (.loc 0) 1 l'.length] := by simp [Blk.ren, V.ren, backR, Hp.fresh]
                simp only [upF, List.map_cons, List.map_nil, e1]
                exact outer_fix3 (get_out hlp []) (fun e => by cases e) (fun e => hm3 e.symm) (by decide)
          · rw [if_neg hgo, ← hl0]
            refine ⟨g, ?_, ⟨jo, ⟨m, hm, j0, jm⟩, j2⟩, hlp⟩
            have hgo2 : q ∈ Mk ∨ bat (marks c) q = false := by
              by_cases hqM : q ∈ Mk
              · exact .inl hqM
              · right
                cases hb : bat (marks c) q with
                | false => rfl
                | true => exact absurd ⟨hqM, hb⟩ hgo
            rcases hgo2 with hb | hb
            all_goals (
              first | rw [decide_eq_true hb] at hqm | rw [hb] at cSq
              refine VRound.vy' hlp rfl rfl rfl g.grows_refl fun l0 => ?_
              refine VRound.tell [(2, .ptr (.out (.out mC)) 0), (4, .fp [.func (.func 65) [] []]), (5, .fp [dints c]), (21, I q)] ?_ ?_
              · conv => whnf
                refine Retell.turn ⟨[], 0, [], []⟩ (TurnOk.mk' _ _ [] [] (OutOk.lift _) rfl (by decide) zb trivial trivial rfl) zw zm
              · conv => whnf
                repeat (first | ((first | refine zs1 ?_ | refine zs2 ?_ | refine zs3 ?_ | refine zs4 ?_ | refine zs5 ?_ | refine zs6 [] ?_); conv => whnf))
                refine VBegin.intro (get_out hlp _) rfl ?_
                conv => whnf
                refine zs6 [] ?_
                conv => whnf
                repeat' (first | ((first | refine zs1 ?_ | refine zs2 ?_ | refine zs3 ?_ | refine zs4 ?_ | refine zs5 ?_); conv => whnf) | ((first | apply zi1 | apply zi2 | apply zi3 | apply zi4 | apply zi5) <;> intro _ <;> conv => whnf) | (refine VLd.cell rfl rfl (get_setO (hno _ _) kmc _) rfl ?_; conv => whnf) | (refine VLd.recc encB_len q 0 rfl rfl (get_setO (hno _ _) kmi _) hqm (by decide) rfl (ofs _) ?_; conv => whnf) | (refine VAny.ix encI_len q rfl rfl hx ?_; conv => whnf) | (refine VCall.intro (cSq _) ?_; conv => whnf))
                all_goals first
                  | exact RFin.on (outW_get _ _ _ _) (VOut.back (get_out hlp []) rfl)
                  | contradiction
                  | skip)
        · rintro ⟨go, gl⟩ ⟨jo, ⟨m, hm, j0, jm⟩, j2⟩ hlp
          dsimp only at jo
          subst jo
          rw [← hR] at j0 jm ⊢
          have hlR : M.length ≤ R.length := by
            have := hMI 4 (by omega)
            rw [← hR] at this
            have := this.len
            omega
          have hol2 := ownF_len own hlR
          generalize ownF own M R = l at j0 jm hol2 hgrow ⊢
          have j0 : gl[0]? = some _ := j0
          have jm : gl[m]? = some _ := jm
          have j2 : gl[2]? = some _ := j2
          have l0 := (List.getElem?_eq_some_iff.1 j0).1
          have lm := (List.getElem?_eq_some_iff.1 jm).1
          have key : ∀ (x : Nat) (A : Blk), x ≠ 3 → (gl.set 3 A)[x]? = gl[x]? := fun x A hx => List.getElem?_set_ne (Ne.symm hx)
          have hmn : ([0, m] : List Nat).Nodup := by simp; omega
          have hm4 : 2 ∉ ([0, m] : List Nat) := by simp; omega
          refine Told.mk [(8, .ptr (.loc 0) 0)] [.cells true [.gl (.loc 1) 1 l.length], .flat true (l.flatMap encI)] (marks' := []) ?_ ?_
          · conv => whnf
            refine Retell.turn ⟨[0, m], gl.length, [], []⟩ (TurnOk.mk' _ _ [] [] OutOk.oF (Nat.ble_eq_true_of_le (by simp)) hmn (BTos.cells (blt_of l0) ((key 0 _ (by decide)).trans j0) rfl zw (BTos.flat (blt_of lm) ((key m _ (by omega)).trans jm) rfl BTos.nil)) trivial trivial rfl) zw (MkTo.drop hm4 ((key 2 _ (by decide)).trans j2) MkTo.nil)
          · conv => whnf
            repeat' (first | ((first | refine zs1 ?_ | refine zs2 ?_ | refine zs3 ?_ | refine zs4 ?_ | refine zs5 ?_); conv => whnf) | ((first | apply zi1 | apply zi2 | apply zi3 | apply zi4 | apply zi5) <;> intro _ <;> conv => whnf))
            refine VOut.upd [(mI, .flat true ((metB c.length R).flatMap encB)), (oI, .dead)] [.flat true (l.flatMap encI)] [1] 2 ?_ ?_ ?_ ?_ ?_ ?_ ?_
            · rfl
            · intro e he
              simp only [List.mem_cons, List.not_mem_nil, or_false] at he
              rcases he with rfl | rfl <;> simp only
              · rw [h7.mi]; simp
              · rw [h8]; simp
            · decide
            · rfl
            · intro k' b' hk'
              cases k' with
              | zero => rw [List.getElem?_cons_zero, Option.some.injEq] at hk'; subst hk'; exact ⟨1, rfl, rfl⟩
              | succ k' => simp at hk'
            · intro σ x hx
              have : (V.gl h.fresh 1 l.length).ren (backR h.loc.length [1] 2) = .gl (.loc 1) 1 l.length := by simp [V.ren, backR, Hp.fresh]
              rw [this]; exact hx
            · rfl
end Go.Proofs.YtlgdkljiilbooaaGreat

open Go.Vm
open Riv
namespace Go.Proofs.YtlgdkljiilbooaaGreat
set_option maxRecDepth 20000
set_option maxHeartbeats 4000000

theorem vc_chg1 (b : Bool) (h : Hp) : VC Tryz.prog 77 [B b] h (B b) h := by
  refine VC.body Tryz.func77 rfl Tryz.ntmps77 Tryz.call77 (h.grows_refl) rfl ?_; conv => whnf
  repeat' (first | ((first | refine zs1 ?_ | refine zs2 ?_ | refine zs3 ?_ | refine zs4 ?_ | refine zs5 ?_ | refine zs6 [] ?_); conv => whnf) | ((first | apply zi1 | apply zi2 | apply zi3 | apply zi4 | apply zi5) <;> intro _ <;> conv => whnf))
  exact VOut.same rfl
theorem bat_get {mk : List Bool} {q : Nat} (h : q < mk.length) : mk[q]? = some (bat mk q) := by
  unfold bat; rw [List.getD_eq_getElem?_getD, List.getElem?_eq_getElem h]; rfl
def vFolB (w hh : Int) (c : List Int) (mk : List Bool) (mC fC : Vm.Id) : V := .func (.func 85) [] [.ptr mC 0, .fp [DI w, DI hh, dints c], .fp [.func (.func 77) [] []], .fp [dbools mk], .ptr fC 0]
structure MemB (w hh : Int) (c : List Int) (mk : List Bool) (mC mI fC : Vm.Id) (M : List Nat) (h : Hp) : Prop where
  mc : h.get mC = some (.cells true [.gl mI 1 mk.length])
  mi : h.get mI = some (.flat true ((metB mk.length M).flatMap encB))
  fc : h.get fC = some (.cells true [vFolB w hh c mk mC fC])
structure DjtB (mC mI fC oI : Vm.Id) : Prop where
  cI : mC ≠ mI
  co : mC ≠ oI
  fI : fC ≠ mI
  fo : fC ≠ oI
  Io : mI ≠ oI
def effB (h : Hp) (mI oI : Vm.Id) (L : Nat) (R : List Nat) (l : List Int) : Hp := (h.sets [(mI, .flat true ((metB L R).flatMap encB)), (oI, .dead)]).pushes [.flat true (l.flatMap encI)]
theorem vc_folB {W H : Nat} (m : Mp) (mk : List Bool) (o : MOk W H m.c) (hw : m.w = W) (hmk : mk.length = m.c.length) : ∀ (N n : Nat) (M : List Nat) (own : List Int) (mC mI fC oI : Vm.Id) (h : Hp), bat mk n = true → n ∉ M → M.Nodup → (∀ x ∈ M, x < m.c.length) → m.c.length ≤ N + M.length → own.length ≤ M.length →
    MemB m.w m.h m.c mk mC mI fC M h → h.get oI = some (.flat true (own.flatMap encI)) → DjtB mC mI fC oI →
    VC Tryz.prog 85 [I n, .gl oI 1 own.length, .ptr mC 0, .fp (encM m), .fp [.func (.func 77) [] []], .fp [dbools mk], .ptr fC 0] h (.gl h.fresh 1 (ownF own M (folW mk W N n M)).length) (effB h mI oI mk.length (folW mk W N n M) (ownF own M (folW mk W N n M)))
  | 0, n, M, own, mC, mI, fC, oI, h, h1, h2, h3, h4, h5, h6, h7, h8, h9 => by
    have h10 := nodup_len m.c.length (M ++ [n]) (by
      rw [List.nodup_append]
      exact ⟨h3, by simp, fun a ha b hb => by simp at hb; subst hb; intro e; subst e; exact h2 ha⟩) fun x hx => by
      rcases List.mem_append.1 hx with hx | hx
      · exact h4 x hx
      · simp at hx; subst hx; have := bat_lt h1; omega
    rw [List.length_append, List.length_singleton] at h10
    omega
  | N + 1, n, M, own, mC, mI, fC, oI, h, h1, h2, h3, h4, h5, h6, h7, h8, h9 => by
    have IH := fun n M own mC mI fC oI h => vc_folB m mk o hw hmk N n M own mC mI fC oI h
    have hWb := o.w
    have hHb := o.h
    have hL := o.len
    have hm144 := MOk.le o
    have cB := fun n h => vc_beside m n h
    have itB := fun n hn => iter_beside m W n (by omega) hw hn (by omega)
    have hnl := bat_lt h1
    have hR : folW mk W (N + 1) n M = folL mk (folW mk W N) (nbs W mk.length n) (M ++ [n]) := rfl
    rw [← folL_fold, ← nbF_all] at hR
    have hmi0 : MI mk.length (M ++ [n]) (M ++ [n]) := by
      refine ⟨List.prefix_refl _, ?_, fun x hx => ?_⟩
      · rw [List.nodup_append]
        exact ⟨h3, by simp, fun a ha b hb => by simp at hb; subst hb; intro e; subst e; exact h2 ha⟩
      · rcases List.mem_append.1 hx with hx | hx
        · rw [hmk]; exact h4 x hx
        · simp at hx; subst hx; exact hnl
    have hMI := fun j hj => nbM_ok (mk := mk) (N := N) (n := n) (W := W) (H := H) (by omega) (by rw [hmk]; exact hL) hmi0 (by rw [List.length_append, List.length_singleton, hmk]; omega) j hj
    have hMl : (M ++ [n]).length = M.length + 1 := by simp
    have hfo : ∀ k M, bat mk k = true → k ∉ M → M.Nodup → (∀ x ∈ M, x < mk.length) → mk.length ≤ N + M.length → M <+: folW mk W N k M := fun k M a1 a2 a3 a4 a5 => (folW_mi (by omega) (by rw [hmk]; exact hL) a1 a2 a3 a4 a5).1.pre
    have hpre0 : M <+: M ++ [n] := List.prefix_append _ _
    obtain ⟨R, hRe⟩ : ∃ R, R = folW mk W (N + 1) n M := ⟨_, rfl⟩
    rw [← hRe] at hR ⊢
    clear hRe
    have hset := metB_set (L := mk.length) M (n := n) (by exact hnl)
    have hmat := metB_at (L := mk.length) (k := n) M (by exact hnl)
    have hown1 := ownF_one own M n
    have hgrow : h.grows (effB h mI oI mk.length R (ownF own M R)) := by
      refine Hp.grows_sets fun e he => ?_
      simp only [List.mem_cons, List.not_mem_nil, or_false] at he
      rcases he with rfl | rfl <;> simp only
      · rw [h7.mi]; simp
      · rw [h8]; simp
    obtain ⟨mw, mh, c⟩ := m
    dsimp only at *
    subst hw
    show VC Tryz.prog 85 [I n, .gl oI 1 own.length, .ptr mC 0, .fp [DI W, DI mh, dints c], .fp [.func (.func 77) [] []], .fp [dbools mk], .ptr fC 0] h _ _
    refine VC.bodyC 3 Tryz.func85 rfl Tryz.ntmps85 Tryz.call85 hgrow rfl ?_
    conv => whnf
    have hno : ∀ (i : Vm.Id) (j : Nat), Vm.Id.out i ≠ .loc j := fun _ _ e => by cases e
    have hMle := hmi0.len.2
    repeat' (first | ((first | refine zs1 ?_ | refine zs2 ?_ | refine zs3 ?_ | refine zs4 ?_ | refine zs5 ?_); conv => whnf) | ((first | apply zi1 | apply zi2 | apply zi3 | apply zi4 | apply zi5) <;> intro _ <;> conv => whnf) | (refine VLd.cell rfl rfl (get_out h7.mc _) rfl ?_; conv => whnf))
    refine VMem.setRec encB_len n 0 true rfl rfl (get_out h7.mi _) hmat (by decide) rfl (ofs _) ?_
    rw [hset]
    conv => whnf
    repeat' (first | ((first | refine zs1 ?_ | refine zs2 ?_ | refine zs3 ?_ | refine zs4 ?_ | refine zs5 ?_); conv => whnf) | ((first | apply zi1 | apply zi2 | apply zi3 | apply zi4 | apply zi5) <;> intro _ <;> conv => whnf))
    refine VMem.app1B (α := Int) (l := own) (n : Int) encI_len rfl (get_outNe (fun e => h9.Io e.symm) (get_out h8 _)) rfl rfl rfl (by omega) ?_
    rw [← hown1]
    conv => whnf
    repeat' (first | ((first | refine zs1 ?_ | refine zs2 ?_ | refine zs3 ?_ | refine zs4 ?_ | refine zs5 ?_); conv => whnf) | ((first | apply zi1 | apply zi2 | apply zi3 | apply zi4 | apply zi5) <;> intro _ <;> conv => whnf))
    have hol : own.length + 1 = (ownF own M (M ++ [n])).length := by rw [hown1, List.length_append, List.length_singleton]
    refine VCut.atO (outer := oF h.lift mI oI mk.length (M ++ [n])) (marks := []) 99 [(0, I n), (2, .ptr (.out mC) 0), (3, .fp [DI W, DI mh, dints c]), (4, .fp [.func (.func 77) [] []]), (5, .fp [dbools mk]), (6, .ptr (.out fC) 0), (8, .ptr (.loc 0) 0)] [.cells true [.gl (.loc 1) 1 (own.length + 1)], .flat true ((ownF own M (M ++ [n])).flatMap encI)] rfl ?_ ?_
    · generalize ownF own M (M ++ [n]) = o1
      conv => whnf
      refine Retell.turn ⟨[0, 2], 3, [], []⟩ (TurnOk.mk' _ _ [] [] OutOk.oF rfl (by decide) zb trivial trivial rfl) zw zm
    · conv => whnf
      repeat' (first | ((first | refine zs1 ?_ | refine zs2 ?_ | refine zs3 ?_ | refine zs4 ?_ | refine zs5 ?_); conv => whnf) | ((first | apply zi1 | apply zi2 | apply zi3 | apply zi4 | apply zi5) <;> intro _ <;> conv => whnf) | (refine VCall.intro (cB n _) ?_; conv => whnf))
      refine VCode.tell [(2, .ptr (.out mC) 0), (4, .fp [.func (.func 77) [] []]), (5, .fp [dbools mk]), (6, .ptr (.out fC) 0), (8, .ptr (.loc 0) 0), (20, vBes ⟨W, mh, c⟩ n)] [.cells true [.gl (.loc 1) 1 (own.length + 1)], .flat true ((ownF own M (M ++ [n])).flatMap encI)] (marks' := []) ?_ ?_
      · generalize ownF own M (M ++ [n]) = o1
        conv => whnf
        refine Retell.turn ⟨[0, 1], 2, [], []⟩ (TurnOk.mk' _ _ [] [] OutOk.oF rfl (by decide) zb trivial trivial rfl) zw zm
      · conv => whnf
        refine VCode.iterS 4 (nbY W c.length n) (fun j g => GJ (oF h.lift mI oI mk.length (nbF (folS mk (folW mk W N)) W mk.length n (M ++ [n]) j)) (ownF own M (nbF (folS mk (folW mk W N)) W mk.length n (M ++ [n]) j)) g) _ (.loc 3) rfl (itB n (by omega)) rfl rfl ⟨rfl, ⟨1, .inl rfl, by rw [nbF_zero, ← hol]; rfl, rfl⟩, rfl⟩ ?_ ?_ ?_
        · rintro j g hj hy hJ
          rw [nbF_none (by rw [hmk]; exact nbY_none hy)]; exact hJ
        · rintro j g vs hj hy hJ hlp
          obtain ⟨q, hq, rfl⟩ := nbY_some hy
          have hqc : q < mk.length := by
            have := ((nbs_iff (by omega) hL (by omega)).1 (nbO_mem hj hq)).1
            omega
          rw [← hmk] at hq
          rw [nbF_some hq]
          have hI := hMI j (by omega)
          generalize nbF (folS mk (folW mk W N)) W mk.length n (M ++ [n]) j = Mk at hJ hI
          have hpreM : M <+: Mk := hpre0.trans hI.pre
          have hlenM := hI.len
          have hlown := ownF_len own hpreM.length_le
          have hpp := fun S (hS : Mk <+: S) => ownF_ownF own hpreM hS
          obtain ⟨jo, ⟨m, hm, j0, jm⟩, j2⟩ := hJ
          obtain ⟨l, hl0⟩ : ∃ l, l = ownF own M Mk := ⟨_, rfl⟩
          rw [← hl0] at j0 jm hlown
          simp only [← hl0] at hpp
          have kmc : g.get (.out mC) = some ((Blk.cells true [.gl mI 1 mk.length]).ren .out) := by
            show g.outer mC = _
            rw [jo]; exact oF_oth h9.cI h9.co [] (get_out h7.mc [])
          have kfc : g.get (.out fC) = some ((Blk.cells true [vFolB W mh c mk mC fC]).ren .out) := by
            show g.outer fC = _
            rw [jo]; exact oF_oth h9.fI h9.fo [] (get_out h7.fc [])
          have kmi : g.get (.out mI) = some (.flat true ((metB mk.length Mk).flatMap encB)) := by
            show g.outer mI = _
            rw [jo]; exact oF_met h9.Io []
          have hqm := metB_at Mk hqc
          have hx := bat_get hqc
          have cSq := fun h => vc_chg1 (bat mk q) h
          unfold folS
          have hm0 : Vm.Id.loc m ≠ .loc 0 := by intro h0; injection h0; omega
          have hm3 : Vm.Id.loc m ≠ .loc 3 := by intro h0; injection h0; omega
          by_cases hgo : q ∉ Mk ∧ bat mk q = true
          · rw [if_pos hgo]
            rw [decide_eq_false hgo.1] at hqm
            rw [hgo.2] at hx cSq
            have hfp := hfo q Mk hgo.2 hgo.1 hI.nd hI.lt (by omega)
            have IHq := fun H hM hb => IH q Mk l (.out (.out mC)) (.out (.out mI)) (.out (.out fC)) (.out (.loc m)) H hgo.2 hgo.1 hI.nd (fun x hx => by have := hI.lt x hx; omega) (by omega) (by omega) hM hb ⟨fun e => h9.cI (by injection e with e; injection e), (fun e => by injection e with e; cases e), fun e => h9.fI (by injection e with e; injection e), (fun e => by injection e with e; cases e), (fun e => by injection e with e; cases e)⟩
            have hown2 := hpp _ hfp
            have hfl := hfp.length_le
            have hl2 := ownF_len l hfl
            generalize folW mk W N q Mk = S at IHq hown2 hfl hl2
            rw [← hown2]
            generalize ownF l Mk S = l' at IHq hl2
            obtain ⟨s1, s2, s3⟩ := FJ.step (R := S) (l' := l') h9.Io jo j0 jm j2 hm hlp
            refine ⟨_, ?_, s2, s3⟩
            refine VRound.vy' hlp rfl rfl rfl s1 fun l0 => ?_
            refine VRound.tell [(2, .ptr (.out (.out mC)) 0), (4, .fp [.func (.func 77) [] []]), (5, .fp [dbools mk]), (6, .ptr (.out (.out fC)) 0), (8, .ptr (.out (.loc 0)) 0), (21, I q)] ?_ ?_
            · conv => whnf
              refine Retell.turn ⟨[], 0, [], []⟩ (TurnOk.mk' _ _ [] [] (OutOk.lift _) rfl (by decide) zb trivial trivial rfl) zw zm
            · conv => whnf
              repeat (first | ((first | refine zs1 ?_ | refine zs2 ?_ | refine zs3 ?_ | refine zs4 ?_ | refine zs5 ?_ | refine zs6 [] ?_); conv => whnf))
              refine VBegin.intro (get_out hlp _) rfl ?_
              conv => whnf
              refine zs6 [] ?_
              conv => whnf
              repeat' (first | ((first | refine zs1 ?_ | refine zs2 ?_ | refine zs3 ?_ | refine zs4 ?_ | refine zs5 ?_); conv => whnf) | ((first | apply zi1 | apply zi2 | apply zi3 | apply zi4 | apply zi5) <;> intro _ <;> conv => whnf) | (refine VLd.cell rfl rfl (get_setO (hno _ _) kmc _) rfl ?_; conv => whnf) | (refine VLd.recc encB_len q 0 rfl rfl (get_setO (hno _ _) kmi _) hqm (by decide) rfl (ofs _) ?_; conv => whnf) | (refine VAny.ix encB_len q rfl rfl hx ?_; conv => whnf) | (refine VCall.intro (cSq _) ?_; conv => whnf))
              repeat' (first | ((first | refine zs1 ?_ | refine zs2 ?_ | refine zs3 ?_ | refine zs4 ?_ | refine zs5 ?_); conv => whnf) | ((first | apply zi1 | apply zi2 | apply zi3 | apply zi4 | apply zi5) <;> intro _ <;> conv => whnf) | (refine VLd.cell rfl rfl (get_setO (hno _ _) kfc _) rfl ?_; conv => whnf) | (refine VLd.cell rfl rfl (get_setO (by decide) j0 _) rfl ?_; conv => whnf))
              refine VCall.intro (IHq _ ⟨get_setO (hno _ _) kmc _, get_setO (hno _ _) kmi _, get_setO (hno _ _) kfc _⟩ (get_setO hm3 jm _)) ?_
              conv => whnf
              repeat' (first | ((first | refine zs1 ?_ | refine zs2 ?_ | refine zs3 ?_ | refine zs4 ?_ | refine zs5 ?_); conv => whnf) | ((first | apply zi1 | apply zi2 | apply zi3 | apply zi4 | apply zi5) <;> intro _ <;> conv => whnf))
              refine VMem.st1 rfl rfl rfl (b := .cells true [.gl (.out (.loc m)) 1 l.length]) (get_outNe (fun e => hm0 e.symm) (get_outNe (fun e => by cases e) (get_setO (by decide) j0 _))) rfl ?_
              conv => whnf
              repeat' (first | ((first | refine zs1 ?_ | refine zs2 ?_ | refine zs3 ?_ | refine zs4 ?_ | refine zs5 ?_); conv => whnf) | ((first | apply zi1 | apply zi2 | apply zi3 | apply zi4 | apply zi5) <;> intro _ <;> conv => whnf))
              refine RFin.on (get_outNe (by decide) (get_outNe (fun e => hm3 e.symm) (get_outNe (fun e => by cases e) (outW_get _ _ _ _)))) ?_
              refine VOut.upd (upF mI mk.length S m (.cells true [.gl g.fresh 1 l'.length])) [.flat true (l'.flatMap encI)] [0] 1 ?_ (upF_ok kmi jm j0) ?_ ?_ ?_ ?_ ?_
              · rfl
              · decide
              · rfl
              · intro k' b' hk'
                cases k' with
                | zero => rw [List.getElem?_cons_zero, Option.some.injEq] at hk'; subst hk'; exact ⟨0, rfl, rfl⟩
                | succ k' => simp at hk'
              · intro σ x hx; exact hx
              · have e1 : (Blk.cells true [V.gl g.fresh 1 l'.length]).ren (backR g.loc.length [0] 1) = .cells true [.gl (.loc 0) 1 l'.length] := by simp [Blk.ren, V.ren, backR, Hp.fresh]
                simp only [upF, List.map_cons, List.map_nil, e1]
                exact outer_fix3 (get_out hlp []) (fun e => by cases e) (fun e => hm3 e.symm) (by decide)
          · rw [if_neg hgo, ← hl0]
            refine ⟨g, ?_, ⟨jo, ⟨m, hm, j0, jm⟩, j2⟩, hlp⟩
            have hgo2 : q ∈ Mk ∨ bat mk q = false := by
              by_cases hqM : q ∈ Mk
              · exact .inl hqM
              · right
                cases hb : bat mk q with
                | false => rfl
                | true => exact absurd ⟨hqM, hb⟩ hgo
            rcases hgo2 with hb | hb
            all_goals (
              first | rw [decide_eq_true hb] at hqm | rw [hb] at hx cSq
              refine VRound.vy' hlp rfl rfl rfl g.grows_refl fun l0 => ?_
              refine VRound.tell [(2, .ptr (.out (.out mC)) 0), (4, .fp [.func (.func 77) [] []]), (5, .fp [dbools mk]), (21, I q)] ?_ ?_
              · conv => whnf
                refine Retell.turn ⟨[], 0, [], []⟩ (TurnOk.mk' _ _ [] [] (OutOk.lift _) rfl (by decide) zb trivial trivial rfl) zw zm
              · conv => whnf
                repeat (first | ((first | refine zs1 ?_ | refine zs2 ?_ | refine zs3 ?_ | refine zs4 ?_ | refine zs5 ?_ | refine zs6 [] ?_); conv => whnf))
                refine VBegin.intro (get_out hlp _) rfl ?_
                conv => whnf
                refine zs6 [] ?_
                conv => whnf
                repeat' (first | ((first | refine zs1 ?_ | refine zs2 ?_ | refine zs3 ?_ | refine zs4 ?_ | refine zs5 ?_); conv => whnf) | ((first | apply zi1 | apply zi2 | apply zi3 | apply zi4 | apply zi5) <;> intro _ <;> conv => whnf) | (refine VLd.cell rfl rfl (get_setO (hno _ _) kmc _) rfl ?_; conv => whnf) | (refine VLd.recc encB_len q 0 rfl rfl (get_setO (hno _ _) kmi _) hqm (by decide) rfl (ofs _) ?_; conv => whnf) | (refine VAny.ix encB_len q rfl rfl hx ?_; conv => whnf) | (refine VCall.intro (cSq _) ?_; conv => whnf))
                all_goals first
                  | exact RFin.on (outW_get _ _ _ _) (VOut.back (get_out hlp []) rfl)
                  | contradiction
                  | skip)
        · rintro ⟨go, gl⟩ ⟨jo, ⟨m, hm, j0, jm⟩, j2⟩ hlp
          dsimp only at jo
          subst jo
          rw [← hR] at j0 jm ⊢
          have hlR : M.length ≤ R.length := by
            have := hMI 4 (by omega)
            rw [← hR] at this
            have := this.len
            omega
          have hol2 := ownF_len own hlR
          generalize ownF own M R = l at j0 jm hol2 hgrow ⊢
          have j0 : gl[0]? = some _ := j0
          have jm : gl[m]? = some _ := jm
          have j2 : gl[2]? = some _ := j2
          have l0 := (List.getElem?_eq_some_iff.1 j0).1
          have lm := (List.getElem?_eq_some_iff.1 jm).1
          have key : ∀ (x : Nat) (A : Blk), x ≠ 3 → (gl.set 3 A)[x]? = gl[x]? := fun x A hx => List.getElem?_set_ne (Ne.symm hx)
          have hmn : ([0, m] : List Nat).Nodup := by simp; omega
          have hm4 : 2 ∉ ([0, m] : List Nat) := by simp; omega
          refine Told.mk [(8, .ptr (.loc 0) 0)] [.cells true [.gl (.loc 1) 1 l.length], .flat true (l.flatMap encI)] (marks' := []) ?_ ?_
          · conv => whnf
            refine Retell.turn ⟨[0, m], gl.length, [], []⟩ (TurnOk.mk' _ _ [] [] OutOk.oF (Nat.ble_eq_true_of_le (by simp)) hmn (BTos.cells (blt_of l0) ((key 0 _ (by decide)).trans j0) rfl zw (BTos.flat (blt_of lm) ((key m _ (by omega)).trans jm) rfl BTos.nil)) trivial trivial rfl) zw (MkTo.drop hm4 ((key 2 _ (by decide)).trans j2) MkTo.nil)
          · conv => whnf
            repeat' (first | ((first | refine zs1 ?_ | refine zs2 ?_ | refine zs3 ?_ | refine zs4 ?_ | refine zs5 ?_); conv => whnf) | ((first | apply zi1 | apply zi2 | apply zi3 | apply zi4 | apply zi5) <;> intro _ <;> conv => whnf))
            refine VOut.upd [(mI, .flat true ((metB mk.length R).flatMap encB)), (oI, .dead)] [.flat true (l.flatMap encI)] [1] 2 ?_ ?_ ?_ ?_ ?_ ?_ ?_
            · rfl
            · intro e he
              simp only [List.mem_cons, List.not_mem_nil, or_false] at he
              rcases he with rfl | rfl <;> simp only
              · rw [h7.mi]; simp
              · rw [h8]; simp
            · decide
            · rfl
            · intro k' b' hk'
              cases k' with
              | zero => rw [List.getElem?_cons_zero, Option.some.injEq] at hk'; subst hk'; exact ⟨1, rfl, rfl⟩
              | succ k' => simp at hk'
            · intro σ x hx
              have : (V.gl h.fresh 1 l.length).ren (backR h.loc.length [1] 2) = .gl (.loc 1) 1 l.length := by simp [V.ren, backR, Hp.fresh]
              rw [this]; exact hx
            · rfl
end Go.Proofs.YtlgdkljiilbooaaGreat

open Go.Vm
namespace Go.Proofs.YtlgdkljiilbooaaGreat.Bt
set_option maxRecDepth 20000
set_option maxHeartbeats 1000000
structure Prc (l : Lnd) (x : Exc) (a b : Int) : Prop where
  ok : XOk l x
  al : ∀ (i : Nat) (s : Str) (p : Int), l.ss[i]? = some s → x.ps[i]? = some p → isFree s = true ∨ p = x.w * (1 - s.ow)
  pr : ∀ (i : Nat) (s : Str) (p : Int), l.ss[i]? = some s → x.ps[i]? = some p → isFree s = true → (0 < s.no * a - s.so * b → x.w ≤ p) ∧ (s.no * a - s.so * b < 0 → p ≤ 0)
end Go.Proofs.YtlgdkljiilbooaaGreat.Bt

open Go.Vm
namespace Go.Proofs.YtlgdkljiilbooaaGreat.Bt
set_option maxRecDepth 20000
set_option maxHeartbeats 1000000

/-! The order is one, and prices hold for exchanges by order. -/

theorem posS_hi {q : Int → Bool} {out : List Int} : ∀ (m j : Nat), posS q out m ≤ j → j < m → q (out.getD j 0) = true
  | 0, j, _, h => by omega
  | m + 1, j, h1, h2 => by
    rw [posS] at h1
    split at h1
    · rename_i h3
      rcases Nat.eq_or_lt_of_le (Nat.le_of_lt_succ h2) with rfl | h4
      · exact h3
      · exact posS_hi m j h1 h4
    · omega
theorem posS_lo {q : Int → Bool} {out : List Int} : ∀ (m : Nat), 0 < posS q out m → q (out.getD (posS q out m - 1) 0) = false
  | 0, h => by simp [posS] at h
  | m + 1, h => by
    rw [posS] at h ⊢
    split
    · rename_i h1; rw [if_pos h1] at h; exact posS_lo m h
    · rename_i h1; simpa using h1
theorem insS_sorted {q : Int → Int → Bool} {out : List Int} {x : Int} (hT : ∀ y ∈ out, ∀ z ∈ out, q x y = false → q y z = false → q x z = false) (hA : ∀ y ∈ out, q x y = true → q y x = false) (h : out.Pairwise fun a b => q b a = false) : (insS (q x) out x).Pairwise fun a b => q b a = false := by
  have hp := posS_le (q x) out out.length
  have hhi := posS_hi (q := q x) (out := out) out.length
  have hlo := posS_lo (q := q x) (out := out) out.length
  unfold insS
  generalize posS (q x) out out.length = p at *
  have h2 := h
  rw [List.pairwise_iff_getElem] at h
  have htk : ∀ a ∈ out.take p, q x a = false := by
    intro a ha
    obtain ⟨i, hi, rfl⟩ := List.mem_take_iff_getElem.1 ha
    have hip : i < p := by omega
    have hlast := hlo (by omega)
    rw [List.getD_eq_getElem?_getD, List.getElem?_eq_getElem (show p - 1 < out.length by omega), Option.getD_some] at hlast
    rcases Nat.eq_or_lt_of_le (show i ≤ p - 1 by omega) with rfl | hlt
    · exact hlast
    · exact hT _ (List.getElem_mem _) _ (List.getElem_mem _) hlast (h i (p - 1) (by omega) (by omega) hlt)
  have hdp : ∀ b ∈ out.drop p, q b x = false := by
    intro b hb
    obtain ⟨i, hi, rfl⟩ := List.mem_drop_iff_getElem.1 hb
    have := hhi (i + p) (by omega) (by omega)
    rw [List.getD_eq_getElem?_getD, List.getElem?_eq_getElem (show i + p < out.length by omega), Option.getD_some] at this
    have e : p + i = i + p := Nat.add_comm _ _
    simp only [e]
    exact hA _ (List.getElem_mem _) this
  rw [List.pairwise_append, List.pairwise_cons]
  rw [← List.take_append_drop p out, List.pairwise_append] at h2
  refine ⟨h2.1, ⟨hdp, h2.2.1⟩, fun a ha b hb => ?_⟩
  rcases List.mem_cons.1 hb with rfl | hb
  · exact htk a ha
  · exact h2.2.2 a ha b hb
theorem isGo_sorted {q : Int → Int → Bool} {l : List Int} (hT : ∀ x ∈ l, ∀ y ∈ l, ∀ z ∈ l, q x y = false → q y z = false → q x z = false) (hA : ∀ x ∈ l, ∀ y ∈ l, q x y = true → q y x = false) : ∀ {m : Nat}, m ≤ l.length → (isGo q l m).Pairwise fun a b => q b a = false
  | 0, _ => List.Pairwise.nil
  | m + 1, hm => by
    have hx : l.getD m 0 ∈ l := by
      rw [List.getD_eq_getElem?_getD, List.getElem?_eq_getElem (show m < l.length by omega), Option.getD_some]; exact List.getElem_mem _
    rw [isGo]
    exact insS_sorted (fun y hy z hz => hT _ hx y (isGo_mem (by omega) y hy) z (isGo_mem (by omega) z hz)) (fun y hy => hA _ hx y (isGo_mem (by omega) y hy)) (isGo_sorted hT hA (by omega))
theorem cross {a b c d e f : Int} (hd : 1 ≤ d) (h1 : a * d ≤ b * c) (h2 : c * f ≤ d * e) (hb : 0 ≤ b) (hf : 0 ≤ f) : a * f ≤ b * e := by
  have x1 : a * d * f ≤ b * c * f := Int.mul_le_mul_of_nonneg_right h1 hf
  have x2 : b * (c * f) ≤ b * (d * e) := Int.mul_le_mul_of_nonneg_left h2 hb
  refine Int.le_of_mul_le_mul_left (a := d) ?_ (by omega)
  have y1 : d * (a * f) = a * d * f := by rw [Int.mul_comm a d, Int.mul_assoc]
  have y2 : d * (b * e) = b * (d * e) := by rw [Int.mul_left_comm]
  have y3 : b * c * f = b * (c * f) := Int.mul_assoc _ _ _
  omega
theorem sAt_ok {l : Lnd} (o : Ok l) {j : Nat} (h : j < l.ss.length) : Sok l.vs (sAt l j) := by
  have hs : l.ss[j]? = some l.ss[j] := List.getElem?_eq_getElem h
  rw [sAt_eq hs]; exact o.ss _ (List.getElem_mem h)
theorem fr_ok {l : Lnd} (o : Ok l) {x : Int} (h : x ∈ frL l l.ss.length) : (1 ≤ (sAt l x.toNat).no ∧ (sAt l x.toNat).no ≤ 1000) ∧ 1 ≤ (sAt l x.toNat).so ∧ (sAt l x.toNat).so ≤ 1000 := by
  obtain ⟨j, hj, rfl, _⟩ := mem_selS.1 h
  have := sAt_ok o hj
  exact ⟨this.no, this.so⟩
theorem ord_sorted {l : Lnd} (o : Ok l) : (ordL l).Pairwise fun a b => ahB l b a = false := by
  refine isGo_sorted (fun x hx y hy z hz h1 h2 => ?_) (fun x hx y hy h => ?_) (Nat.le_refl _)
  · have a := fr_ok o hx
    have b := fr_ok o hy
    have c := fr_ok o hz
    unfold ahB fst2 at *
    simp only [decide_eq_false_iff_not, Int.not_lt] at *
    exact cross b.2.1 h1 h2 (by omega) (by omega)
  · unfold ahB fst2 at *
    simp only [decide_eq_false_iff_not, decide_eq_true_eq, Int.not_lt] at *
    have e1 : (sAt l y.toNat).no * (sAt l x.toNat).so = (sAt l x.toNat).so * (sAt l y.toNat).no := Int.mul_comm _ _
    have e2 : (sAt l y.toNat).so * (sAt l x.toNat).no = (sAt l x.toNat).no * (sAt l y.toNat).so := Int.mul_comm _ _
    omega
theorem ord_le {l : Lnd} (o : Ok l) {i k : Nat} (hik : i ≤ k) (hk : k < (ordL l).length) : (oS l k).no * (oS l i).so ≤ (oS l k).so * (oS l i).no := by
  rcases Nat.eq_or_lt_of_le hik with rfl | h
  · rw [Int.mul_comm]; exact Int.le_refl _
  · have := List.pairwise_iff_getElem.1 (ord_sorted o) i k (by omega) hk h
    unfold oS
    rw [List.getD_eq_getElem?_getD, List.getElem?_eq_getElem hk, List.getD_eq_getElem?_getD, List.getElem?_eq_getElem (show i < (ordL l).length by omega), Option.getD_some, Option.getD_some]
    unfold ahB fst2 at this
    rw [decide_eq_false_iff_not] at this
    omega
theorem mem_insS_len {l : Lnd} {j : Nat} (hj : j < l.ss.length) (hf : freeQ l j = true) : (j : Int) ∈ ordL l := by
  have h : (j : Int) ∈ frL l l.ss.length := mem_selS.2 ⟨j, hj, rfl, hf⟩
  suffices H : ∀ (L : List Int) (q : Int → Int → Bool) (m : Nat), m ≤ L.length → ∀ y, y ∈ L.take m → y ∈ isGo q L m by
    exact H _ _ _ (Nat.le_refl _) _ (by rw [List.take_length]; exact h)
  intro L q m
  induction m with
  | zero => intro _ y hy; simp at hy
  | succ m ih =>
    intro hm y hy
    rw [isGo, insS_mem]
    rw [List.take_add_one, List.getElem?_eq_getElem (show m < L.length by omega), List.mem_append] at hy
    rcases hy with hy | hy
    · exact .inr (ih (by omega) y hy)
    · left
      simp at hy
      rw [hy, List.getD_eq_getElem?_getD, List.getElem?_eq_getElem (show m < L.length by omega), Option.getD_some]
end Go.Proofs.YtlgdkljiilbooaaGreat.Bt

open Go.Vm
namespace Go.Proofs.YtlgdkljiilbooaaGreat.Bt
set_option maxRecDepth 20000
set_option maxHeartbeats 1000000

theorem cut_mem {l : Lnd} {k : Nat} {i : Nat} (h : (i : Int) = cutC l k) : ∃ m, k = m ∧ m < (ordL l).length ∧ (ordL l)[m]? = some (i : Int) := by
  unfold cutC at h
  rcases Nat.lt_or_ge k (ordL l).length with hk | hk
  · refine ⟨k, rfl, hk, ?_⟩
    rw [List.getD_eq_getElem?_getD, List.getElem?_eq_getElem hk, Option.getD_some] at h
    rw [List.getElem?_eq_getElem hk, h]
  · rw [List.getD_eq_getElem?_getD, List.getElem?_eq_none hk, Option.getD_none] at h
    omega
theorem oS_at {l : Lnd} {m i : Nat} {s : Str} (h : (ordL l)[m]? = some (i : Int)) (hs : l.ss[i]? = some s) : oS l m = s := by
  unfold oS
  rw [List.getD_eq_getElem?_getD, h, Option.getD_some, Int.toNat_natCast, sAt_eq hs]
theorem ord_of {l : Lnd} {i : Nat} {s : Str} (hs : l.ss[i]? = some s) (hf : isFree s = true) : ∃ m, m < (ordL l).length ∧ (ordL l)[m]? = some (i : Int) := by
  have hi := (List.getElem?_eq_some_iff.1 hs).1
  have := mem_insS_len (l := l) hi (by unfold freeQ; rw [sAt_eq hs]; exact hf)
  obtain ⟨m, hm, e⟩ := List.getElem_of_mem this
  exact ⟨m, hm, by rw [List.getElem?_eq_getElem hm, e]⟩
theorem mem_free {l : Lnd} {i : Nat} {s : Str} (h : (i : Int) ∈ ordL l) (hs : l.ss[i]? = some s) : isFree s = true := by
  obtain ⟨j, h1, h2, h3⟩ := ord_mem h
  have : i = j := by omega
  subst this
  unfold freeQ at h3
  rw [sAt_eq hs] at h3; exact h3
theorem exL_get {l : Lnd} {f : List Int} {c n w : Int} {i : Nat} {s : Str} {p : Int} (hs : l.ss[i]? = some s) (hp : (exL l f c n w)[i]? = some p) : p = prt l f c n w i := by
  rw [exL_at (List.getElem?_eq_some_iff.1 hs).1] at hp
  exact (Option.some.inj hp).symm
theorem xC_al {l : Lnd} {k : Nat} {n w : Int} (i : Nat) (s : Str) (p : Int) (hs : l.ss[i]? = some s) (hp : (xC l k n w).ps[i]? = some p) : isFree s = true ∨ p = w * (1 - s.ow) := by
  have hp := exL_get hs hp
  unfold prt at hp
  cases hf : isFree s
  · right
    have h1 : ¬ ((i : Int) = cutC l k) := by
      intro h
      obtain ⟨m, _, h2, h3⟩ := cut_mem h
      rw [mem_free (List.mem_of_getElem? h3) hs] at hf; cases hf
    have h2 : ¬ ((i : Int) ∈ (ordL l).take k) := by
      intro h
      rw [mem_free (List.mem_of_mem_take h) hs] at hf; cases hf
    have h3 : freeQ l i = false := by unfold freeQ; rw [sAt_eq hs]; exact hf
    rw [if_neg h1, if_neg h2, h3, cond_false, sAt_eq hs] at hp
    rw [hp, Int.mul_comm]
  · exact .inl rfl
theorem mem_take_at {l : Lnd} {k i : Nat} (h : (i : Int) ∈ (ordL l).take k) : ∃ m, m < k ∧ m < (ordL l).length ∧ (ordL l)[m]? = some (i : Int) := by
  obtain ⟨m, hm, e⟩ := List.mem_take_iff_getElem.1 h
  exact ⟨m, by omega, by omega, by rw [List.getElem?_eq_getElem (by omega), e]⟩
theorem xC_prc {l : Lnd} (o : Ok l) {k : Nat} (hk : k < (ordL l).length) {n w : Int} (hn : 0 ≤ n ∧ n ≤ w) (hw : 1 ≤ w ∧ w ≤ 2000) : Prc l (xC l k n w) (oS l k).so (oS l k).no := by
  refine ⟨xC_ok o k hn hw, xC_al, fun i s p hs hp hf => ?_⟩
  have hp := exL_get hs hp
  have hw0 : (xC l k n w).w = w := rfl
  rw [hw0]
  unfold prt at hp
  split at hp
  · rename_i h
    obtain ⟨m, rfl, h2, h3⟩ := cut_mem h
    rw [oS_at h3 hs]
    have : s.no * s.so = s.so * s.no := Int.mul_comm _ _
    omega
  · rename_i hc
    split at hp
    · rename_i h
      obtain ⟨m, hm, h2, h3⟩ := mem_take_at h
      have := ord_le o (show m ≤ k by omega) hk
      rw [oS_at h3 hs] at this
      have e1 : s.no * (oS l k).so = (oS l k).so * s.no := Int.mul_comm _ _
      have e2 : s.so * (oS l k).no = (oS l k).no * s.so := Int.mul_comm _ _
      omega
    · rename_i h
      have h3 : freeQ l i = true := by unfold freeQ; rw [sAt_eq hs]; exact hf
      rw [h3, cond_true] at hp
      obtain ⟨m, hm, h4⟩ := ord_of hs hf
      have hkm : k ≤ m := by
        rcases Nat.lt_or_ge m k with h5 | h5
        · exact absurd (List.mem_take_iff_getElem.2 ⟨m, by omega, by have := List.getElem?_eq_some_iff.1 h4; exact this.2⟩) h
        · exact h5
      have := ord_le o hkm hm
      rw [oS_at h4 hs] at this
      omega
theorem xK_al {l : Lnd} {k : Nat} (i : Nat) (s : Str) (p : Int) (hs : l.ss[i]? = some s) (hp : (xK l k).ps[i]? = some p) : isFree s = true ∨ p = 1 * (1 - s.ow) := by
  refine xC_al (l := l) (k := k) (n := 0) (w := 1) i s p hs ?_
  show (exL l _ (cutC l k) 0 1)[i]? = some p
  rw [xC_zero]; exact hp
theorem xK_prc {l : Lnd} (o : Ok l) (k : Nat) : ∃ a b, (1 ≤ a ∧ a ≤ 1001) ∧ (1 ≤ b ∧ b ≤ 1001) ∧ Prc l (xK l k) a b := by
  rcases Nat.lt_or_ge k (ordL l).length with hk | hk
  · have h := xC_prc o hk (n := 0) (w := 1) (by omega) (by omega)
    have e : xC l k 0 1 = xK l k := by unfold xC xK; rw [xC_zero]
    rw [e] at h
    obtain ⟨j, A⟩ := at_k hk
    have hs := o.ss _ (List.mem_of_getElem? A.st)
    exact ⟨_, _, ⟨hs.so.1, by have := hs.so; omega⟩, ⟨hs.no.1, by have := hs.no; omega⟩, h⟩
  · refine ⟨1001, 1, by decide, by decide, xK_ok o k, fun i s p hs hp => xK_al i s p hs hp, fun i s p hs hp hf => ?_⟩
    have hp := exL_get hs hp
    obtain ⟨m, hm, h4⟩ := ord_of hs hf
    have hin : (i : Int) ∈ (ordL l).take k := by
      rw [List.take_of_length_le hk]; exact List.mem_of_getElem? h4
    have h1 : ¬ ((i : Int) = -1) := by omega
    unfold prt at hp
    rw [if_neg h1, if_pos hin] at hp
    have := o.ss s (List.mem_of_getElem? hs)
    have h2 := this.no
    have h3 := this.so
    have e : (xK l k).w = 1 := rfl
    rw [e]
    omega
theorem xR_prc {l : Lnd} (o : Ok l) {k n w : Nat} (hk : k < (ordL l).length) (hn : n ≤ w) (hw : 1 ≤ w) (hw2 : w ≤ 2000) : ∃ a b, (1 ≤ a ∧ a ≤ 1001) ∧ (1 ≤ b ∧ b ≤ 1001) ∧ Prc l (xR l k n w) a b := by
  obtain ⟨h1, h2⟩ := red_bd hn hw hw2
  obtain ⟨j, A⟩ := at_k hk
  have hs := o.ss _ (List.mem_of_getElem? A.st)
  exact ⟨_, _, ⟨hs.so.1, by have := hs.so; omega⟩, ⟨hs.no.1, by have := hs.no; omega⟩, xC_prc o hk h1 h2⟩
theorem opt_one {n s a b p q w v : Int} (hp : 0 ≤ p ∧ p ≤ w) (hq : 0 ≤ q ∧ q ≤ v) (h1 : 0 < n * a - s * b → w ≤ p) (h2 : n * a - s * b < 0 → p ≤ 0) (hw : 0 ≤ w) (hv : 0 ≤ v) : ((n * q) * a + (s * (v - q)) * b) * w ≤ ((n * p) * a + (s * (w - p)) * b) * v := by
  have e1 : ((n * q) * a + (s * (v - q)) * b) * w = (n * a - s * b) * (q * w) + s * b * (v * w) := by grind
  have e2 : ((n * p) * a + (s * (w - p)) * b) * v = (n * a - s * b) * (p * v) + s * b * (v * w) := by grind
  rw [e1, e2]
  generalize n * a - s * b = m at *
  have : m * (q * w) ≤ m * (p * v) := by
    rcases Int.lt_trichotomy m 0 with h | h | h
    · have : p = 0 := by have := h2 h; omega
      subst this
      have : 0 ≤ q * w := Int.mul_nonneg hq.1 hw
      have := Int.mul_nonneg (show 0 ≤ -m by omega) this
      have h5 : -m * (q * w) = -(m * (q * w)) := Int.neg_mul _ _
      have h6 : m * (0 * v) = 0 := by simp
      omega
    · subst h; simp
    · have : p = w := by have := h1 h; omega
      subst this
      have : q * p ≤ v * p := Int.mul_le_mul_of_nonneg_right hq.2 hw
      rw [Int.mul_comm p v]
      exact Int.mul_le_mul_of_nonneg_left this (by omega)
  omega
theorem opt_go {a b w v : Int} (hw : 1 ≤ w) (hv : 1 ≤ v) : ∀ (ss : List Str) (ps qs : List Int), ss.length = ps.length → ss.length = qs.length →
    (∀ (i : Nat) s p q, ss[i]? = some s → ps[i]? = some p → qs[i]? = some q → (0 ≤ p ∧ p ≤ w) ∧ (0 ≤ q ∧ q ≤ v) ∧ (isFree s = true ∨ p = w * (1 - s.ow)) ∧ (isFree s = true ∨ q = v * (1 - s.ow)) ∧ (isFree s = true → (0 < s.no * a - s.so * b → w ≤ p) ∧ (s.no * a - s.so * b < 0 → p ≤ 0))) →
    (hN ss qs * a + hS v ss qs * b) * w ≤ (hN ss ps * a + hS w ss ps * b) * v
  | [], [], [], _, _, _ => by simp [hN, hS]
  | [], _ :: _, _, h, _, _ => by cases h
  | _ :: _, [], _, h, _, _ => by cases h
  | [], _, _ :: _, _, h, _ => by cases h
  | _ :: _, _, [], _, h, _ => by cases h
  | s :: ss, p :: ps, q :: qs, h1, h2, h => by
    have ih := opt_go (a := a) (b := b) hw hv ss ps qs (by simpa using h1) (by simpa using h2) (fun i s' p' q' x1 x2 x3 => h (i + 1) s' p' q' (by simpa using x1) (by simpa using x2) (by simpa using x3))
    obtain ⟨g1, g2, g3, g4, g5⟩ := h 0 s p q rfl rfl rfl
    rw [hN, hN, hS, hS]
    have one : ((s.no * q) * a + (s.so * (v - q)) * b) * w ≤ ((s.no * p) * a + (s.so * (w - p)) * b) * v := by
      cases hf : isFree s
      · have e1 : p = w * (1 - s.ow) := by rcases g3 with g | g; rw [hf] at g; cases g; exact g
        have e2 : q = v * (1 - s.ow) := by rcases g4 with g | g; rw [hf] at g; cases g; exact g
        subst e1 e2
        have : ((s.no * (v * (1 - s.ow))) * a + (s.so * (v - v * (1 - s.ow))) * b) * w = ((s.no * (w * (1 - s.ow))) * a + (s.so * (w - w * (1 - s.ow))) * b) * v := by grind
        omega
      · obtain ⟨x1, x2⟩ := g5 hf
        exact opt_one g1 g2 x1 x2 (by omega) (by omega)
    generalize s.no * q = A1 at *
    generalize s.so * (v - q) = A2 at *
    generalize s.no * p = A3 at *
    generalize s.so * (w - p) = A4 at *
    generalize hN ss qs = A5 at *
    generalize hS v ss qs = A6 at *
    generalize hN ss ps = A7 at *
    generalize hS w ss ps = A8 at *
    grind
end Go.Proofs.YtlgdkljiilbooaaGreat.Bt

open Go.Vm
namespace Go.Proofs.YtlgdkljiilbooaaGreat.Bt
set_option maxRecDepth 20000
set_option maxHeartbeats 1000000

structure Alw (l : Lnd) (x : Exc) : Prop where
  ok : XOk l x
  al : ∀ (i : Nat) (s : Str) (p : Int), l.ss[i]? = some s → x.ps[i]? = some p → isFree s = true ∨ p = x.w * (1 - s.ow)
theorem now_alw {l : Lnd} (o : Ok l) : Alw l (nowX l) := by
  refine ⟨now_ok o, fun i s p hs hp => .inr ?_⟩
  have e2 : (nowP l)[i]? = some (1 - s.ow) := by simp [nowP, hs]
  have hp : (nowP l)[i]? = some p := hp
  rw [e2] at hp
  cases hp
  show _ = 1 * (1 - s.ow)
  omega
theorem opt {l : Lnd} {x y : Exc} {a b : Int} (h : Prc l x a b) (k : Alw l y) : (hasN l y * a + hasS l y * b) * x.w ≤ (hasN l x * a + hasS l x * b) * y.w := by
  refine opt_go (by have := h.ok.w; omega) (by have := k.ok.w; omega) _ _ _ h.ok.len.symm k.ok.len.symm fun i s p q h1 h2 h3 => ?_
  exact ⟨h.ok.ps _ (List.mem_of_getElem? h2), k.ok.ps _ (List.mem_of_getElem? h3), h.al i s p h1 h2, k.al i s q h1 h3, h.pr i s p h1 h2⟩
theorem opt_gain {l : Lnd} {x y : Exc} {a b : Int} (h : Prc l x a b) (k : Alw l y) : (gnN l y * a + gnS l y * b) * x.w ≤ (gnN l x * a + gnS l x * b) * y.w := by
  have := opt h k
  unfold gnN gnS
  generalize hasN l (nowX l) = A at *
  generalize hasS l (nowX l) = C at *
  generalize hasN l x = A1 at *
  generalize hasS l x = A2 at *
  generalize hasN l y = A3 at *
  generalize hasS l y = A4 at *
  have e1 : ((A3 - y.w * A) * a + (A4 - y.w * C) * b) * x.w = (A3 * a + A4 * b) * x.w - (A * a + C * b) * (x.w * y.w) := by grind
  have e2 : ((A1 - x.w * A) * a + (A2 - x.w * C) * b) * y.w = (A1 * a + A2 * b) * y.w - (A * a + C * b) * (x.w * y.w) := by grind
  rw [e1, e2]; omega
theorem gn_now {l : Lnd} : gnN l (nowX l) = 0 ∧ gnS l (nowX l) = 0 := by
  have e : (nowX l).w = 1 := rfl
  unfold gnN gnS
  rw [e]; omega
theorem hN_le2 {v : Int} : ∀ {ss : List Str} {ps qs : List Int}, (∀ s ∈ ss, 0 ≤ s.no) → ps.length = ss.length → qs.length = ss.length → (∀ (i : Nat) p q, ps[i]? = some p → qs[i]? = some q → q ≤ v * p) → hN ss qs ≤ v * hN ss ps
  | [], _, _, _, _, _, _ => by simp [hN]
  | s :: ss, [], _, _, h, _, _ => by simp at h
  | s :: ss, _ :: _, [], _, _, h, _ => by simp at h
  | s :: ss, p :: ps, q :: qs, hs, h1, h2, h => by
    have := hN_le2 (v := v) (fun t hm => hs t (List.mem_cons_of_mem _ hm)) (by simpa using h1) (by simpa using h2) (fun i p q hp hq => h (i + 1) p q (by simpa using hp) (by simpa using hq))
    have h0 := Int.mul_le_mul_of_nonneg_left (h 0 p q rfl rfl) (hs s (by simp))
    rw [hN, hN, Int.mul_add, Int.mul_left_comm]; omega
theorem xKn_le {l : Lnd} {y : Exc} (k : Alw l y) (i : Nat) (p q : Int) (hp : (xK l (ordL l).length).ps[i]? = some p) (hq : y.ps[i]? = some q) : q ≤ y.w * p := by
  have hi : i < l.ss.length := by rw [← k.ok.len]; exact (List.getElem?_eq_some_iff.1 hq).1
  have hs : l.ss[i]? = some l.ss[i] := List.getElem?_eq_getElem hi
  have h0 := k.ok.ps _ (List.mem_of_getElem? hq)
  cases hf : isFree l.ss[i]
  · rcases xK_al i _ p hs hp with g | h
    · rw [hf] at g; cases g
    · rcases k.al i _ q hs hq with g | g
      · rw [hf] at g; cases g
      · rw [h, g, Int.one_mul]; exact Int.le_refl _
  · have hp := exL_get hs hp
    obtain ⟨m, hm, h4⟩ := ord_of hs hf
    have hin : (i : Int) ∈ (ordL l).take (ordL l).length := by
      rw [List.take_of_length_le (Nat.le_refl _)]; exact List.mem_of_getElem? h4
    have h1 : ¬ ((i : Int) = -1) := by omega
    unfold prt at hp
    rw [if_neg h1, if_pos hin] at hp
    rw [hp]; omega
theorem xKn_gn {l : Lnd} (o : Ok l) {y : Exc} (k : Alw l y) : gnN l y ≤ allN l * y.w := by
  have hno : ∀ s ∈ l.ss, 0 ≤ s.no := fun s hs => by have := (o.ss s hs).no; omega
  have h1 := hN_le2 (v := y.w) hno (xK_ok o _).len k.ok.len (fun i p q => xKn_le k i p q)
  have e1 : hN l.ss (xK l (ordL l).length).ps = hasN l (xK l (ordL l).length) := rfl
  have e3 : hN l.ss y.ps = hasN l y := rfl
  have e5 : (xK l (ordL l).length).w = 1 := rfl
  unfold allN nK gnN
  rw [e1, e3] at h1
  rw [e5, Int.sub_mul, Int.mul_comm (hasN l (xK l (ordL l).length)), Int.one_mul, Int.mul_comm (hasN l (nowX l))]
  omega
/-! The exchange by which both gain alike. -/
def Cut1 (x : Exc) : Prop := x.w = 1 ∨ ∃ (j : Nat) (p : Int), x.ps[j]? = some p ∧ (0 < p ∧ p < x.w) ∧ ∀ (i : Nat) (q : Int), i ≠ j → x.ps[i]? = some q → q ≤ 0 ∨ x.w ≤ q
theorem xC_cut {l : Lnd} {k : Nat} (hk : k < (ordL l).length) {n w : Int} (hn : 0 < n ∧ n < w) (o : Ok l) : Cut1 (xC l k n w) := by
  obtain ⟨j, A⟩ := at_k hk
  refine .inr ⟨j, n, ?_, hn, fun i q hij hq => ?_⟩
  · show (exL l _ _ n w)[j]? = _
    rw [exL_at A.lt]
    unfold prt
    rw [A.cut, if_pos rfl]
  · have hi : i < l.ss.length := by
      have := (List.getElem?_eq_some_iff.1 hq).1
      have e : (xC l k n w).ps.length = l.ss.length := exL_len _ _ _ _ _
      omega
    have hs : l.ss[i]? = some l.ss[i] := List.getElem?_eq_getElem hi
    have hq := exL_get hs hq
    have hw : (xC l k n w).w = w := rfl
    rw [hw]
    unfold prt at hq
    rw [A.cut, if_neg (by omega)] at hq
    have how := (o.ss _ (List.getElem_mem hi)).ow
    rw [sAt_eq hs] at hq
    split at hq
    · omega
    · cases hf : freeQ l i
      · rw [hf, cond_false] at hq
        rcases how with h | h <;> rw [h] at hq <;> omega
      · rw [hf, cond_true] at hq; omega
structure EvS (l : Lnd) (x : Exc) : Prop where
  prc : ∃ a b, (1 ≤ a ∧ a ≤ 1001) ∧ (1 ≤ b ∧ b ≤ 1001) ∧ Prc l x a b
  eq : gnN l x = gnS l x
  cut : Cut1 x
theorem nKn {l : Lnd} (o : Ok l) : 0 ≤ nK l (ordL l).length ∧ sK l (ordL l).length ≤ 0 := by
  have h1 := xKn_gn o (now_alw o)
  obtain ⟨a, b, ha, hb, hp⟩ := xK_prc o (ordL l).length
  have e1 : gnN l (nowX l) = 0 := gn_now.1
  have ew : (nowX l).w = 1 := rfl
  rw [e1, ew] at h1
  refine ⟨by unfold allN at h1; omega, ?_⟩
  have hso : ∀ s ∈ l.ss, 0 ≤ s.so := fun s hs => by have := (o.ss s hs).so; omega
  have hle := hS_mono (w := 1) hso (nowP_len l) (xK_ok o (ordL l).length).len (fun i p q hp hq => by
    have := xKn_le (now_alw o) i q p hq hp
    rw [ew] at this; omega)
  have e2 : hasS l (xK l (ordL l).length) = hS 1 l.ss (xK l (ordL l).length).ps := rfl
  have e4 : hasS l (nowX l) = hS 1 l.ss (nowP l) := rfl
  have e5 : (xK l (ordL l).length).w = 1 := rfl
  unfold sK gnS
  rw [e5, e2, e4]; omega
theorem evGo_spec {l : Lnd} (o : Ok l) : ∀ (d k : Nat), k + d = (ordL l).length → 0 ≤ sK l k - nK l k → EvS l (evGo l k d)
  | 0, k, hk, h0 => by
    have hk : k = (ordL l).length := by omega
    rw [evGo, hk]
    rw [hk] at h0
    have := nKn o
    exact ⟨xK_prc o _, show nK l _ = sK l _ by omega, .inl rfl⟩
  | d + 1, k, hk, h0 => by
    have hkl : k < (ordL l).length := by omega
    obtain ⟨j, A⟩ := at_k hkl
    have hsok := o.ss _ (List.mem_of_getElem? A.st)
    have q1 := hsok.no
    have q2 := hsok.so
    obtain ⟨n1, n2⟩ := nK_succ hkl
    have hst : stepK l k = (oS l k).no + (oS l k).so := rfl
    rw [evGo]
    split
    · rename_i h1
      obtain ⟨m, hm⟩ : ∃ m : Nat, (m : Int) = sK l k - nK l k := ⟨(sK l k - nK l k).toNat, by omega⟩
      obtain ⟨s, hs⟩ : ∃ s : Nat, (s : Int) = stepK l k := ⟨(stepK l k).toNat, by omega⟩
      rw [show (sK l k - nK l k).toNat = m by omega, show (stepK l k).toNat = s by omega]
      refine ⟨xR_prc o hkl (by omega) (by omega) (by omega), ?_, ?_⟩
      · obtain ⟨g, a, b, hg, ea, eb, e0, f1, f2⟩ := xR_gn (l := l) (k := k) (n := m) (w := s) hkl (by omega)
        rw [f1, f2]
        have ea' : (m : Int) = g * a := by rw [ea]; exact Int.natCast_mul _ _
        have eb' : (s : Int) = g * b := by rw [eb]; exact Int.natCast_mul _ _
        have hG : (g : Int) ≠ 0 := by omega
        have key : (b : Int) * (sK l k - nK l k) = a * ((oS l k).no + (oS l k).so) := by
          rw [← hm, ← hst, ← hs, ea', eb', Int.mul_left_comm, Int.mul_left_comm (a : Int), Int.mul_comm (b : Int)]
        rw [Int.mul_sub, Int.mul_add] at key
        omega
      · rcases Nat.eq_zero_or_pos m with h | h
        · subst h; rw [xR_zero (by omega)]; exact .inl rfl
        · obtain ⟨g, a, b, hg, ea, eb, e0, f1, f2⟩ := xR_gn (l := l) (k := k) (n := m) (w := s) hkl (by omega)
          rw [e0]
          have ha : 0 < a := by
            rcases Nat.eq_zero_or_pos a with h3 | h3
            · rw [h3, Nat.mul_zero] at ea; omega
            · exact h3
          have hab : a < b := by
            have : g * a < g * b := by omega
            exact Nat.lt_of_mul_lt_mul_left this
          exact xC_cut hkl (by omega) o
    · rename_i h1
      exact evGo_spec o d (k + 1) (by omega) (by omega)
theorem ev_spec {l : Lnd} (o : Ok l) : EvS l (evX l) := evGo_spec o _ 0 (by omega) (less0 o)
theorem EvS.nonneg {l : Lnd} {x : Exc} (h : EvS l x) (o : Ok l) : 0 ≤ gnN l x := by
  obtain ⟨a, b, ha, hb, hp⟩ := h.prc
  have := opt_gain hp (now_alw o)
  rw [gn_now.1, gn_now.2, ← h.eq] at this
  have e : (nowX l).w = 1 := rfl
  have e2 : (gnN l x * a + gnN l x * b) * 1 = gnN l x * (a + b) := by grind
  rw [e, e2] at this
  simp only [Int.zero_mul, Int.add_zero] at this
  exact Int.nonneg_of_mul_nonneg_left this (by omega)
end Go.Proofs.YtlgdkljiilbooaaGreat.Bt

open Go.Vm
namespace Go.Proofs.YtlgdkljiilbooaaGreat.Bt
set_option maxRecDepth 20000
set_option maxHeartbeats 1000000

def gl (e w d : Int) : Lnd := ⟨[⟨0, e, e + d, -1⟩, ⟨1, w + d, w, -1⟩], []⟩
def bkX : Exc := ⟨1, [0, 1]⟩
theorem gl_ok {e w d : Int} (he : 1 ≤ e ∧ e ≤ 144) (hw : 1 ≤ w ∧ w ≤ 144) (hd : 1 ≤ d ∧ d ≤ 5) : Ok (gl e w d) where
  n := by show 1 ≤ 2 ∧ 2 ≤ 16; decide
  v := Nat.zero_le _
  side := fun x hx => by cases hx
  ss := fun s hs => by
    unfold gl at hs ⊢
    simp only [List.mem_cons, List.not_mem_nil, or_false] at hs
    rcases hs with rfl | rfl
    · exact ⟨.inl rfl, by dsimp only; omega, by dsimp only; omega, .inl rfl⟩
    · exact ⟨.inr rfl, by dsimp only; omega, by dsimp only; omega, .inl rfl⟩
theorem bk_ok (e w d : Int) : XOk (gl e w d) bkX where
  w := by show (1 : Int) ≤ 1 ∧ (1 : Int) ≤ 2000; decide
  len := rfl
  ps := fun p hp => by
    unfold bkX at hp ⊢
    simp only [List.mem_cons, List.not_mem_nil, or_false] at hp
    rcases hp with rfl | rfl <;> decide
theorem bk_al (e w d : Int) : alB (gl e w d) bkX = true := by simp [alB, gl, bkX, alGo, isFree]
theorem bk_alw (e w d : Int) : Alw (gl e w d) bkX where
  ok := bk_ok e w d
  al := fun i s p hs hp => by
    left
    have := List.mem_of_getElem? hs
    unfold gl at this
    simp only [List.mem_cons, List.not_mem_nil, or_false] at this
    rcases this with rfl | rfl <;> rfl
theorem bk_wst {e w d : Int} (he : 1 ≤ e) (hw : 1 ≤ w) (hd : 1 ≤ d) : wst (gl e w d) bkX = none := by
  have h1 : (e + d) * (w + d) = e * w + (e * d + d * w + d * d) := by rw [Int.add_mul, Int.mul_add, Int.mul_add]; omega
  have h2 := Int.mul_pos (a := e) (b := d) (by omega) (by omega)
  have h3 := Int.mul_pos (a := d) (b := w) (by omega) (by omega)
  have h4 := Int.mul_pos (a := d) (b := d) (by omega) (by omega)
  have h5 : ¬ ((e + d) * (w + d) < e * w) := by omega
  simp [wst, wsO, wsR, wsB, gl, bkX, sAt, pAt, fst2, isFree, h5]
theorem gl_law {e w d : Int} (he : 1 ≤ e ∧ e ≤ 144) (hw : 1 ≤ w ∧ w ≤ 144) (hd : 1 ≤ d ∧ d ≤ 5) : gnN (gl e w d) (evX (gl e w d)) = gnS (gl e w d) (evX (gl e w d)) ∧ 0 ≤ gnN (gl e w d) (evX (gl e w d)) ∧
    min (gnN (gl e w d) bkX) (gnS (gl e w d) bkX) * (evX (gl e w d)).w ≤ gnN (gl e w d) (evX (gl e w d)) ∧ XOk (gl e w d) (evX (gl e w d)) := by
  have o := gl_ok he hw hd
  have hE := ev_spec o
  have h0 := hE.nonneg o
  obtain ⟨a, b, ha, hb, hp⟩ := hE.prc
  have hg := opt_gain hp (bk_alw e w d)
  have hx := hp.ok
  have heq := hE.eq
  refine ⟨heq, h0, ?_, hx⟩
  have hxw := hx.w
  rw [show bkX.w = 1 from rfl, Int.mul_one, ← heq] at hg
  generalize gnN (gl e w d) (evX (gl e w d)) = n at *
  generalize gnN (gl e w d) bkX = p at *
  generalize gnS (gl e w d) bkX = q at *
  generalize (evX (gl e w d)).w = W at *
  have hmp : min p q ≤ p := by omega
  have hmq : min p q ≤ q := by omega
  generalize min p q = m at *
  have k1 := Int.mul_le_mul_of_nonneg_right hmp (show (0 : Int) ≤ a by omega)
  have k2 := Int.mul_le_mul_of_nonneg_right hmq (show (0 : Int) ≤ b by omega)
  have k3 := Int.mul_le_mul_of_nonneg_right (Int.add_le_add k1 k2) (show (0 : Int) ≤ W by omega)
  have k4 : (m * W) * (a + b) ≤ n * (a + b) := by
    have e1 : (m * W) * (a + b) = (m * a + m * b) * W := by rw [← Int.mul_add, Int.mul_right_comm]
    have e2 : n * (a + b) = n * a + n * b := Int.mul_add _ _ _
    omega
  exact Int.le_of_mul_le_mul_right k4 (by omega)
theorem bk_fr (e w d : Int) : frB (gl e w d) bkX = decide (0 ≤ gnN (gl e w d) bkX ∧ 0 ≤ gnS (gl e w d) bkX) := by unfold frB; rw [bk_al, Bool.true_and]
theorem bk_best {e w d : Int} (he : 1 ≤ e) (hw : 1 ≤ w) (hd : 1 ≤ d) : (alB (gl e w d) bkX && (wst (gl e w d) bkX).isNone) = true := by rw [bk_al, bk_wst he hw hd]; rfl
end Go.Proofs.YtlgdkljiilbooaaGreat.Bt

namespace Riv
def rvb (W k : Nat) : List Int := (List.range k).map fun n => if n % W = 0 then 1 else if n % W = W - 1 then 2 else 0
theorem rvb_len (W k : Nat) : (rvb W k).length = k := by simp [rvb]
theorem rvb_succ (W k : Nat) : rvb W (k + 1) = rvb W k ++ [if k % W = 0 then 1 else if k % W = W - 1 then 2 else 0] := by
  unfold rvb; rw [List.range_succ, List.map_append]; rfl
theorem rvb_at {W k n : Nat} (h : n < k) : at0 (rvb W k) n = if n % W = 0 then 1 else if n % W = W - 1 then 2 else 0 := by
  unfold at0 rvb
  rw [List.getD_eq_getElem?_getD, List.getElem?_map, List.getElem?_range h]; rfl
theorem mod_first (W y : Nat) : (y * W) % W = 0 := Nat.mul_mod_left y W
theorem mod_last {W : Nat} (hW : 2 ≤ W) (y : Nat) : (y * W + W - 1) % W = W - 1 := by
  rw [Nat.add_sub_assoc (by omega), Nat.add_comm, Nat.add_mul_mod_self_right]
  exact Nat.mod_eq_of_lt (by omega)
theorem row_lt {W H y : Nat} (hy : y < H) : y * W + W ≤ W * H := by
  have := Nat.mul_le_mul_left W (show y + 1 ≤ H from hy)
  rw [Nat.mul_add, Nat.mul_one, Nat.mul_comm W y] at this
  exact this
theorem rvb_mok {W H : Nat} (hW : 5 ≤ W ∧ W ≤ 8) (hH : 2 ≤ H ∧ H ≤ 5) : MOk W H (rvb W (W * H)) where
  w := by omega
  h := by omega
  len := rvb_len _ _
  kind := fun n hn => by
    rw [rvb_len] at hn
    rw [rvb_at hn]
    split
    · omega
    · split <;> omega
  side := fun y hy => by
    have := row_lt (W := W) hy
    rw [rvb_at (by omega), rvb_at (by omega), mod_first, mod_last (by omega), if_pos rfl, if_neg (by omega), if_pos rfl]
    exact ⟨rfl, rfl⟩
theorem mok_set {W H n : Nat} {c : List Int} {v : Int} (o : MOk W H c) (hn : n < c.length) (h1 : 0 < n % W ∧ n % W < W - 1) (hv : 0 ≤ v ∧ v ≤ 3) : MOk W H (c.set n v) where
  w := o.w
  h := o.h
  len := by rw [List.length_set]; exact o.len
  kind := fun k hk => by
    rw [List.length_set] at hk
    rw [at0_set hn]
    split
    · exact hv
    · exact o.kind k hk
  side := fun y hy => by
    have hw := o.w
    have h2 : y * W ≠ n := fun e => by rw [← e, mod_first] at h1; omega
    have h3 : y * W + W - 1 ≠ n := fun e => by rw [← e, mod_last (by omega)] at h1; omega
    rw [at0_set hn, at0_set hn, if_neg h2, if_neg h3]
    exact o.side y hy
section
variable (nx : Dk → Int → Int × Dk)
def rvS (W : Nat) (x : Dk × List Int) : Dk × List Int :=
  if 0 < (nx x.1 x.2.length).1.toNat % W ∧ (nx x.1 x.2.length).1.toNat % W < W - 1 then ((nx (nx x.1 x.2.length).2 3).2, x.2.set (nx x.1 x.2.length).1.toNat (nx (nx x.1 x.2.length).2 3).1) else ((nx x.1 x.2.length).2, x.2)
def rvK (W : Nat) (x : Dk × List Int) : Nat → Dk × List Int
  | 0 => x
  | k + 1 => rvS nx W (rvK W x k)
def rvY (W : Nat) (x : Dk × List Int) : Dk × List Int := rvK nx W ((nx x.1 6).2, x.2) (1 + (nx x.1 6).1).toNat
def rvL (W : Nat) (x : Dk × List (List Int)) : Nat → Dk × List (List Int)
  | 0 => x
  | k + 1 => ((rvY nx W ((rvL W x k).1, (rvL W x k).2.getLastD [])).1, (rvL W x k).2 ++ [(rvY nx W ((rvL W x k).1, (rvL W x k).2.getLastD [])).2])
def rvW (d : Dk) : Int × Dk := nx d 4
def rvH (d : Dk) : Int × Dk := nx (rvW nx d).2 4
def rvN (d : Dk) : Int × Dk := nx (rvH nx d).2 4
def rvC (d : Dk) : List Int := rvb (5 + (rvW nx d).1).toNat ((5 + (rvW nx d).1).toNat * (2 + (rvH nx d).1).toNat)
def rvX (d : Dk) : Dk × List (List Int) := rvL nx (5 + (rvW nx d).1).toNat ((rvN nx d).2, [rvC nx d]) (1 + (rvN nx d).1).toNat
variable {nx}
structure RvI (W H : Nat) (m : Nat) (x : Dk × List Int) : Prop where
  ok : MOk W H x.2
  n : x.1.1 ≤ m
theorem rvS_ok (hD : Dealt nx) {W H m : Nat} {x : Dk × List Int} (h : RvI W H m x) : RvI W H (m + 2) (rvS nx W x) := by
  have h1 := hD.lo x.1 x.2.length
  have hlen := h.ok.len
  have hpos : 0 < x.2.length := by
    rw [hlen]
    exact Nat.mul_pos (by have := h.ok.w; omega) (by have := h.ok.h; omega)
  have h2 := hD.hi x.1 x.2.length (by omega)
  have h3 := hD.n x.1 x.2.length
  have h4 := hD.lo (nx x.1 x.2.length).2 3
  have h5 := hD.hi (nx x.1 x.2.length).2 3 (by decide)
  have h6 := hD.n (nx x.1 x.2.length).2 3
  have h7 := h.n
  unfold rvS
  split
  · rename_i hc
    exact ⟨mok_set h.ok (by omega) hc ⟨h4, by omega⟩, by dsimp only; omega⟩
  · exact ⟨h.ok, by dsimp only; omega⟩
theorem rvK_ok (hD : Dealt nx) {W H m : Nat} {x : Dk × List Int} (h : RvI W H m x) : ∀ k, RvI W H (m + 2 * k) (rvK nx W x k)
  | 0 => h
  | k + 1 => by
    have := rvS_ok hD (rvK_ok hD h k)
    exact ⟨this.ok, by have := this.n; rw [rvK]; omega⟩
theorem rvY_ok (hD : Dealt nx) {W H m : Nat} {x : Dk × List Int} (h : RvI W H m x) : RvI W H (m + 13) (rvY nx W x) := by
  have h1 := hD.lo x.1 6
  have h2 := hD.hi x.1 6 (by decide)
  have h3 := hD.n x.1 6
  have h4 := h.n
  have := rvK_ok hD (x := ((nx x.1 6).2, x.2)) (m := m + 1) ⟨h.ok, by dsimp only; omega⟩ (1 + (nx x.1 6).1).toNat
  exact ⟨this.ok, by have := this.n; unfold rvY; omega⟩
structure RvA (W H : Nat) (m : Nat) (x : Dk × List (List Int)) : Prop where
  ok : ∀ c ∈ x.2, MOk W H c
  ne : x.2 ≠ []
  n : x.1.1 ≤ m
theorem lastD_mem {l : List (List Int)} (h : l ≠ []) : l.getLastD [] ∈ l := by
  rw [List.getLastD_eq_getLast?, List.getLast?_eq_some_getLast h]
  exact List.getLast_mem h
theorem rvL_ok (hD : Dealt nx) {W H m : Nat} {x : Dk × List (List Int)} (h : RvA W H m x) : ∀ k, RvA W H (m + 13 * k) (rvL nx W x k) ∧ (rvL nx W x k).2.length = x.2.length + k
  | 0 => ⟨h, rfl⟩
  | k + 1 => by
    obtain ⟨g, gl⟩ := rvL_ok hD h k
    have h1 := rvY_ok hD (x := ((rvL nx W x k).1, (rvL nx W x k).2.getLastD [])) (H := H) (m := m + 13 * k) ⟨g.ok _ (lastD_mem g.ne), g.n⟩
    refine ⟨⟨fun c hc => ?_, by rw [rvL]; simp, by have := h1.n; rw [rvL]; dsimp only; omega⟩, by rw [rvL]; simp [gl]; omega⟩
    rw [rvL] at hc
    rcases List.mem_append.1 hc with hc | hc
    · exact g.ok c hc
    · rw [List.mem_singleton.1 hc]; exact h1.ok
structure RvX (W H : Nat) (d : Dk) (x : Dk × List (List Int)) : Prop where
  w : 5 ≤ W ∧ W ≤ 8
  h : 2 ≤ H ∧ H ≤ 5
  ok : ∀ c ∈ x.2, MOk W H c
  len : 2 ≤ x.2.length ∧ x.2.length ≤ 5
  n : x.1.1 ≤ d.1 + 60
theorem rvX_ok (hD : Dealt nx) (d : Dk) : RvX (5 + (rvW nx d).1).toNat (2 + (rvH nx d).1).toNat d (rvX nx d) := by
  have a1 := hD.lo d 4
  have a2 := hD.hi d 4 (by decide)
  have a3 := hD.n d 4
  rw [show nx d 4 = rvW nx d from rfl] at a1 a2 a3
  have b1 := hD.lo (rvW nx d).2 4
  have b2 := hD.hi (rvW nx d).2 4 (by decide)
  have b3 := hD.n (rvW nx d).2 4
  rw [show nx (rvW nx d).2 4 = rvH nx d from rfl] at b1 b2 b3
  have c1 := hD.lo (rvH nx d).2 4
  have c2 := hD.hi (rvH nx d).2 4 (by decide)
  have c3 := hD.n (rvH nx d).2 4
  rw [show nx (rvH nx d).2 4 = rvN nx d from rfl] at c1 c2 c3
  have hw : 5 ≤ (5 + (rvW nx d).1).toNat ∧ (5 + (rvW nx d).1).toNat ≤ 8 := by omega
  have hh : 2 ≤ (2 + (rvH nx d).1).toNat ∧ (2 + (rvH nx d).1).toNat ≤ 5 := by omega
  obtain ⟨g, gl⟩ := rvL_ok hD (x := ((rvN nx d).2, [rvC nx d])) (m := d.1 + 3) (W := (5 + (rvW nx d).1).toNat) (H := (2 + (rvH nx d).1).toNat) ⟨fun c hc => by
    rw [List.mem_singleton.1 hc]
    exact rvb_mok hw hh, by simp, by dsimp only; omega⟩ (1 + (rvN nx d).1).toNat
  refine ⟨hw, hh, g.ok, ?_, ?_⟩
  · show 2 ≤ (rvX nx d).2.length ∧ (rvX nx d).2.length ≤ 5
    have : (rvX nx d).2.length = [rvC nx d].length + (1 + (rvN nx d).1).toNat := gl
    rw [this, List.length_singleton]; omega
  · have := g.n
    unfold rvX
    omega
end
end Riv


/- Part 1 of the proof that the line moves as the law of slow growth and sudden change says. No condition. -/
import Derived.Test.YtkbbfeljlepgoaaGr0
set_option linter.unusedVariables false
set_option linter.unusedSimpArgs false
namespace Riv
theorem chg_has {a b : List Int} {W H : Nat} (hW : 2 ≤ W) (hL : a.length = W * H) (h1 : a.length ≤ 160) {n : Nat} (hn : n < a.length) (hd : at0 a n ≠ at0 b n) : ∃ cs ∈ chg a b W, n ∈ cs := by
  rw [chg_eq hW hL h1]
  have hN := (names_ok (mk := diffs a b) hW (by rw [diffs_len]; exact h1)).1
  have hb := bat_diffs.2 ⟨hn, hd⟩
  obtain ⟨y, e1, e2, e3⟩ := hN.con n hb
  obtain ⟨z, f1, f2, f3⟩ := hN.con y e2.mk.1
  have := e3 z (f2.trans e2)
  have := f3 y (Con.refl e2.mk.1)
  have hy := bat_lt e2.mk.1
  rw [diffs_len] at hy
  refine ⟨_, List.mem_map.2 ⟨y, List.mem_filter.2 ⟨List.mem_range.2 hy, ?_⟩, rfl⟩, List.mem_filter.2 ⟨List.mem_range.2 hn, ?_⟩⟩
  · simp only [decide_eq_true_eq]; omega
  · simp only [decide_eq_true_eq]; exact e1
theorem chg_one {a b : List Int} {W H : Nat} (hW : 2 ≤ W) (hL : a.length = W * H) (h1 : a.length ≤ 160) {c d : List Nat} {n : Nat} (hc : c ∈ chg a b W) (hd : d ∈ chg a b W) (h2 : n ∈ c) (h3 : n ∈ d) : c = d := by
  rw [chg_eq hW hL h1] at hc hd
  obtain ⟨i, _, rfl⟩ := List.mem_map.1 hc
  obtain ⟨j, _, rfl⟩ := List.mem_map.1 hd
  have e1 := of_decide_eq_true (List.mem_filter.1 h2).2
  have e2 := of_decide_eq_true (List.mem_filter.1 h3).2
  have : i = j := by omega
  rw [this]
def lawL (W : Nat) (l : List (List Int)) (slow : Int) : List (List Int) := (List.range l.length).map (lawAt W l slow)
theorem lawAt_all {W H : Nat} {l : List (List Int)} (h : Yrs W H l) {s : Int} (hs : ((W * H : Nat) : Int) ≤ s) : ∀ y, y < l.length → lawAt W l s y = l.getD y []
  | 0, _ => rfl
  | y + 1, hy => by
    have h2 := h.len y (by omega)
    refine ext0 (by rw [lawAt_len h s _ hy, h.len _ hy]) fun k hk => ?_
    rw [lawAt_len h s _ hy] at hk
    rw [lawAt_at h s hy, lawAt_all h hs y (by omega)]
    split
    · rfl
    · rename_i h3
      refine Decidable.byContradiction fun h4 => h3 ?_
      obtain ⟨c, h5, h6⟩ := chg_has h.two h2 (by rw [h2]; exact h.few) (by rw [h2]; exact hk) h4
      have h7 := (chg_mem h.two h2 (by rw [h2]; exact h.few) h5).2.2.1
      exact ⟨c, h5, h6, by omega⟩
theorem lawAt_none {W H : Nat} {l : List (List Int)} (h : Yrs W H l) {s : Int} (hs : s ≤ 0) : ∀ y, y < l.length → lawAt W l s y = l.getD 0 []
  | 0, _ => rfl
  | y + 1, hy => by
    have h2 := h.len y (by omega)
    refine ext0 (by rw [lawAt_len h s _ hy, h.len 0 (by omega)]) fun k _ => ?_
    rw [lawAt_at h s hy, lawAt_none h hs y (by omega), if_neg]
    rintro ⟨c, h5, h6, h7⟩
    have := (chg_mem h.two h2 (by rw [h2]; exact h.few) h5).1
    have : c.length ≠ 0 := fun e => this (List.eq_nil_of_length_eq_zero e)
    omega
end Riv

namespace Riv
def spot (W a k : Nat) : Nat := if 1 < k then a + W * (k - 1) else a + k
def lput (W a : Nat) (kind : Int) (c : List Int) (k : Nat) : List Int := if spot W a k < c.length ∧ 0 < spot W a k % W ∧ spot W a k % W < W - 1 then c.set (spot W a k) kind else c
theorem lput_len (W a : Nat) (kind : Int) (c : List Int) (k : Nat) : (lput W a kind c k).length = c.length := by
  unfold lput; split
  · exact List.length_set
  · rfl
theorem lput_ok {W H a : Nat} {kind : Int} {c : List Int} (h : MOk W H c) (hk : 0 ≤ kind ∧ kind ≤ 3) (k : Nat) : MOk W H (lput W a kind c k) := by
  have hl := lput_len W a kind c k
  unfold lput at hl ⊢
  split
  · rename_i hc
    rw [if_pos hc] at hl
    have hat := fun j => at0_set (v := kind) hc.1 j
    refine ⟨h.w, h.h, by rw [hl]; exact h.len, fun n hn => ?_, fun y hy => ?_⟩
    · rw [hat]
      split
      · exact hk
      · exact h.kind n (by rw [hl] at hn; exact hn)
    · have hw := h.w.1
      have e1 : y * W % W = 0 := Nat.mul_mod_left y W
      have e2 : (y * W + W - 1) % W = W - 1 := by
        rw [show y * W + W - 1 = W * y + (W - 1) by rw [Nat.mul_comm]; omega, Nat.mul_add_mod, Nat.mod_eq_of_lt (by omega)]
      rw [hat, hat, if_neg (fun e => by rw [e] at e1; omega), if_neg (fun e => by rw [e] at e2; omega)]
      exact h.side y hy
  · exact h
theorem lputs_ok {W H a : Nat} {kind : Int} {c : List Int} (h : MOk W H c) (hk : 0 ≤ kind ∧ kind ≤ 3) : ∀ N : Nat, MOk W H ((List.range N).foldl (lput W a kind) c)
  | 0 => h
  | N + 1 => by rw [List.range_succ, List.foldl_append]; exact lput_ok (lputs_ok h hk N) hk N
section
variable (nx : Dk → Int → Int × Dk)
def ltr (W : Nat) (x : Dk × List Int) : Dk × List Int := ((lb nx x).2, (List.range (1 + (lb nx x).1).toNat).foldl (lput W (la nx x).1.toNat (lk nx x).1) x.2)
def ltrs (W : Nat) (x : Dk × List Int) : Nat → Dk × List Int
  | 0 => x
  | k + 1 => ltr nx W (ltrs W x k)
def laterX (W : Nat) (d : Dk) (c : List Int) : Dk × List Int := ltrs nx W ((nx d 4).2, c) (nx d 4).1.toNat
def agS (W : Nat) (x : Dk × List (List Int)) : Dk × List (List Int) := ((laterX nx W x.1 (x.2.getLastD [])).1, x.2 ++ [(laterX nx W x.1 (x.2.getLastD [])).2])
def agI (W : Nat) (x : Dk × List (List Int)) : Nat → Dk × List (List Int)
  | 0 => x
  | k + 1 => agS nx W (agI W x k)
def ag0 (d : Dk) (w h y : Int) : Int × Dk := nx (madeX nx d w h).1 y
def agedX (d : Dk) (w h y : Int) : Dk × List (List Int) := agI nx (4 + (mdW nx d w).1).toNat ((ag0 nx d w h y).2, [(madeX nx d w h).2]) (ag0 nx d w h y).1.toNat
variable {nx}
theorem ltr_ok (hD : Dealt nx) {W H : Nat} {x : Dk × List Int} (h : MOk W H x.2) : MOk W H (ltr nx W x).2 ∧ (ltr nx W x).1.1 ≤ x.1.1 + 3 ∧ (0 ≤ (la nx x).1 ∧ (la nx x).1 < x.2.length) ∧ (0 ≤ (lk nx x).1 ∧ (lk nx x).1 ≤ 3) ∧ 0 ≤ (lb nx x).1 ∧ (lb nx x).1 < 4 := by
  have hpos : 0 < x.2.length := by rw [h.len]; exact Nat.mul_pos (by have := h.w.1; omega) (by have := h.h.1; omega)
  have a1 := hD.lo x.1 (x.2.length : Int)
  have a2 := hD.hi x.1 (x.2.length : Int) (by omega)
  have a3 := hD.n x.1 (x.2.length : Int)
  rw [show nx x.1 (x.2.length : Int) = la nx x from rfl] at a1 a2 a3
  have b1 := hD.lo (la nx x).2 4
  have b2 := hD.hi (la nx x).2 4 (by decide)
  have b3 := hD.n (la nx x).2 4
  rw [show nx (la nx x).2 4 = lk nx x from rfl] at b1 b2 b3
  have c1 := hD.lo (lk nx x).2 (4 - 1 + 1)
  have c2 := hD.hi (lk nx x).2 (4 - 1 + 1) (by decide)
  have c3 := hD.n (lk nx x).2 (4 - 1 + 1)
  rw [show nx (lk nx x).2 (4 - 1 + 1) = lb nx x from rfl] at c1 c2 c3
  exact ⟨lputs_ok h ⟨b1, by omega⟩ _, by show (lb nx x).2.1 ≤ _; omega, ⟨a1, a2⟩, ⟨b1, by omega⟩, c1, by omega⟩
theorem ltrs_ok (hD : Dealt nx) {W H : Nat} {x : Dk × List Int} (h : MOk W H x.2) : ∀ k, MOk W H (ltrs nx W x k).2 ∧ (ltrs nx W x k).1.1 ≤ x.1.1 + 3 * k
  | 0 => ⟨h, Nat.le_refl _⟩
  | k + 1 => by
    obtain ⟨h1, h2⟩ := ltrs_ok hD h k
    have h3 := ltr_ok hD h1
    refine ⟨h3.1, ?_⟩
    have := h3.2.1
    rw [ltrs]
    omega
theorem laterX_ok (hD : Dealt nx) {W H : Nat} {c : List Int} (h : MOk W H c) (d : Dk) : MOk W H (laterX nx W d c).2 ∧ (laterX nx W d c).1.1 ≤ d.1 + 10 := by
  have a1 := hD.lo d 4
  have a2 := hD.hi d 4 (by decide)
  have a3 := hD.n d 4
  have h1 := ltrs_ok hD (x := ((nx d 4).2, c)) h (nx d 4).1.toNat
  refine ⟨h1.1, ?_⟩
  have := h1.2
  unfold laterX
  dsimp only at this
  omega
structure AI (W H : Nat) (N k : Nat) (x : Dk × List (List Int)) : Prop where
  n : x.1.1 ≤ N + 10 * k
  len : x.2.length = k + 1
  ok : ∀ c ∈ x.2, MOk W H c
theorem agI_ok (hD : Dealt nx) {W H N : Nat} {x : Dk × List (List Int)} (h : AI W H N 0 x) : ∀ k, AI W H N k (agI nx W x k)
  | 0 => h
  | k + 1 => by
    obtain ⟨h1, h2, h3⟩ := agI_ok hD h k
    have hm : (agI nx W x k).2.getLastD [] ∈ (agI nx W x k).2 := by
      generalize (agI nx W x k).2 = l at h2
      cases l with
      | nil => simp at h2
      | cons y l => rw [List.getLastD_cons]; exact List.getLastD_mem_cons
    have h4 := laterX_ok hD (h3 _ hm) (agI nx W x k).1
    rw [agI]
    unfold agS
    refine ⟨by have := h4.2; dsimp only; omega, by simp [h2], fun c hc => ?_⟩
    rcases List.mem_append.1 hc with hc | hc
    · exact h3 c hc
    · rw [List.mem_singleton.1 hc]; exact h4.1
end
end Riv

namespace Riv
theorem chkL_of : ∀ {l : List Mp}, (∀ m ∈ l, chkM m = 0) → chkL l = 0
  | [], _ => rfl
  | x :: l, h => by rw [chkL, if_pos (h x List.mem_cons_self)]; exact chkL_of fun m hm => h m (List.mem_cons_of_mem _ hm)
theorem chkY_of {W H : Nat} {l : List Mp} (h1 : 1 ≤ l.length ∧ l.length ≤ 10) (h : ∀ m ∈ l, m.w = W ∧ m.h = H ∧ MOk W H m.c) : chkY l = 0 := by
  unfold chkY
  have hz : ∀ m ∈ l, chkM m = 0 := fun m hm => by
    obtain ⟨e1, e2, g⟩ := h m hm
    have := chkM_of g
    rw [← e1, ← e2] at this
    exact this
  rw [if_pos h1, if_pos (chkL_of hz)]
  have hs : sameB (l.headD ⟨0, 0, []⟩) l = true := by
    cases l with
    | nil => simp at h1
    | cons m l =>
      unfold sameB
      rw [List.all_eq_true]
      intro x hx
      have g := h x hx
      have f := h m List.mem_cons_self
      exact decide_eq_true ⟨g.1.trans f.1.symm, g.2.1.trans f.2.1.symm⟩
  rw [hs]; rfl
end Riv

open Go.Vm
open Riv
namespace Go.Proofs.Ytkbbfeljlepgoaa
set_option maxRecDepth 20000
set_option maxHeartbeats 4000000
def cgE (l : List Mp) (year : Int) : Int := if chkY l = 0 then (if 0 ≤ year ∧ year ≤ (l.length : Int) - 1 then 0 else 2) else chkY l
def cgL (l : List Mp) (year : Int) : List (List Nat) := if cgE l year = 0 ∧ year ≠ 0 then chg (l.getD (year.toNat - 1) mp0).c (l.getD year.toNat mp0).c (wOf l) else []
theorem vc_Changes (l : List Mp) (year : Int) (h : Hp) (hl : l.length ≤ 4000000) (hc : ∀ m ∈ l, m.c.length ≤ 4000000) : VC Try.prog 33 [yrs l, I year] h (.tuple [intss (natLL (cgL l year)), I (cgE l year)]) h := by
  have c := fun h => vc_CheckYears l h hl hc
  obtain ⟨E, hE⟩ : ∃ E, E = cgE l year := ⟨_, rfl⟩
  obtain ⟨R, hR⟩ : ∃ R, R = cgL l year := ⟨_, rfl⟩
  rw [← hE, ← hR]
  unfold cgL at hR
  rw [← hE] at hR
  unfold cgE at hE
  by_cases h0 : chkY l = 0
  · rw [if_pos h0] at hE
    rw [h0] at c
    obtain ⟨W, H, o⟩ := chkY_YOk h0
    have hn := o.n
    by_cases h1 : 0 ≤ year ∧ year ≤ (l.length : Int) - 1
    · rw [if_pos h1] at hE
      subst hE
      by_cases h2 : year = 0
      · rw [if_neg (fun hh => hh.2 h2)] at hR
        subst hR h2
        refine VC.body Try.func33 rfl Try.ntmps33 Try.call33 (h.grows_refl) rfl ?_; conv => whnf
        repeat' (first | ((first | refine zs1 ?_ | refine zs2 ?_ | refine zs3 ?_ | refine zs4 ?_ | refine zs5 ?_); conv => whnf) | ((first | apply zi1 | apply zi2 | apply zi3 | apply zi4 | apply zi5) <;> intro _ <;> first | (exfalso; omega) | contradiction | (conv => whnf)) | (refine VCall.intro (c _) ?_; conv => whnf) | (refine VCall.intro (vc_from _ _ _ _) ?_; conv => whnf))
        refine VOut.data 0 [] [] rfl zf (by exact FmAll.nil) zw
      · obtain ⟨Y, rfl⟩ : ∃ Y : Nat, year = (Y + 1 : Nat) := ⟨year.toNat - 1, by omega⟩
        rw [if_pos ⟨rfl, h2⟩, Int.toNat_natCast, Nat.add_sub_cancel, wOf_ok o] at hR
        obtain ⟨ha, haw, hah, hao⟩ := o.get (y := Y) (by omega)
        obtain ⟨hm, hmw, hmh, hmo⟩ := o.get (y := Y + 1) (by omega)
        have cC := fun h => vc_changes (l.getD Y mp0) (l.getD (Y + 1) mp0) h hao haw (by rw [hao.len, hmo.len])
        rw [← hR] at cC
        clear hR
        generalize l.getD Y mp0 = am at *
        generalize l.getD (Y + 1) mp0 = m at *
        obtain ⟨aw, ah, ac⟩ := am
        obtain ⟨mw, mh, mc⟩ := m
        refine VC.body Try.func33 rfl Try.ntmps33 Try.call33 (h.grows_refl) rfl ?_; conv => whnf
        repeat' (first | ((first | refine zs1 ?_ | refine zs2 ?_ | refine zs3 ?_ | refine zs4 ?_ | refine zs5 ?_); conv => whnf) | ((first | apply zi1 | apply zi2 | apply zi3 | apply zi4 | apply zi5) <;> intro _ <;> conv => whnf) | (refine VCall.intro (c _) ?_; conv => whnf) | (refine VCall.intro (vc_from _ _ _ _) ?_; conv => whnf))
        all_goals try (exfalso; omega)
        refine zs6 [] ?_
        conv => whnf
        repeat' (first | ((first | refine zs1 ?_ | refine zs2 ?_ | refine zs3 ?_ | refine zs4 ?_ | refine zs5 ?_); conv => whnf) | ((first | apply zi1 | apply zi2 | apply zi3 | apply zi4 | apply zi5) <;> intro _ <;> conv => whnf) | (refine VAny.ix encM_len Y (by omega) rfl ha ?_; conv => whnf) | (refine VAny.ix encM_len (Y + 1) (by omega) rfl hm ?_; conv => whnf) | (refine VCall.intro (cC _) ?_; conv => whnf))
        exact VOut.same rfl
    · rw [if_neg h1] at hE
      subst hE
      rw [if_neg (fun hh => by simp at hh)] at hR
      subst hR
      refine VC.body Try.func33 rfl Try.ntmps33 Try.call33 (h.grows_refl) rfl ?_; conv => whnf
      repeat' (first | ((first | refine zs1 ?_ | refine zs2 ?_ | refine zs3 ?_ | refine zs4 ?_ | refine zs5 ?_); conv => whnf) | ((first | apply zi1 | apply zi2 | apply zi3 | apply zi4 | apply zi5) <;> intro _ <;> first | (exfalso; omega) | contradiction | (conv => whnf)) | (refine VCall.intro (c _) ?_; conv => whnf) | (refine VCall.intro (vc_from _ _ _ _) ?_; conv => whnf))
      refine VOut.data 0 [] [] rfl zf (by exact FmAll.nil) zw
  · rw [if_neg h0] at hE
    rw [← hE] at c h0
    rw [if_neg (fun hh => h0 hh.1)] at hR
    subst hR
    clear hE
    refine VC.body Try.func33 rfl Try.ntmps33 Try.call33 (h.grows_refl) rfl ?_; conv => whnf
    repeat' (first | ((first | refine zs1 ?_ | refine zs2 ?_ | refine zs3 ?_ | refine zs4 ?_ | refine zs5 ?_); conv => whnf) | ((first | apply zi1 | apply zi2 | apply zi3 | apply zi4 | apply zi5) <;> intro _ <;> first | (exfalso; omega) | contradiction | (conv => whnf)) | (refine VCall.intro (c _) ?_; conv => whnf))
    refine VOut.data 0 [] [] rfl zf (by exact FmAll.nil) zw
end Go.Proofs.Ytkbbfeljlepgoaa

open Go.Vm
open Riv
namespace Go.Proofs.Ytkbbfeljlepgoaa
set_option maxRecDepth 20000
set_option maxHeartbeats 4000000
theorem vc_equals (a b : List Mp) (h : Hp) (ha : a.length ≤ 4000000) (hb : b.length ≤ 4000000) (hca : ∀ m ∈ a, m.c.length ≤ 4000000) (hcb : ∀ m ∈ b, m.c.length ≤ 4000000) : VC Try.prog 32 [yrs a, yrs b] h (B (decide (a = b))) h := by
  obtain ⟨E, hE⟩ : ∃ E, E = decide (a = b) := ⟨_, rfl⟩
  rw [← hE]
  refine VC.body Try.func32 rfl Try.ntmps32 Try.call32 (h.grows_refl) rfl ?_; conv => whnf
  refine VCode.lp (fun k : Nat => [(0, yrs a), (1, yrs b), (4, B false), (7, I a.length), (8, I k)]) (fun _ => []) (fun k => k ≤ a.length ∧ k ≤ b.length ∧ E = decide (a.drop k = b.drop k)) (fun k => a.length - k) 0 ⟨Nat.zero_le _, Nat.zero_le _, hE⟩ ?_ ?_
  · conv => whnf
    refine Retell.turn ⟨[], 0, [], []⟩ (TurnOk.mk' _ _ [] [] (OutOk.lift _) rfl (by decide) zb trivial trivial rfl) zw zm
  · rintro k ⟨h1, h2, h3⟩
    rcases Nat.lt_or_ge k a.length with h4 | h4
    · have hx : a[k]? = some a[k] := List.getElem?_eq_getElem h4
      rcases Nat.lt_or_ge k b.length with h5 | h5
      · have hy : b[k]? = some b[k] := List.getElem?_eq_getElem h5
        have hxc := hca _ (List.mem_of_getElem? hx)
        have hyc := hcb _ (List.mem_of_getElem? hy)
        rw [drop_eq_dec hx hy] at h3
        generalize a[k] = x at *
        generalize b[k] = y at *
        have c := fun h => vc_equal x y h hxc hyc
        by_cases hxy : x = y
        · rw [decide_eq_true hxy] at c
          rw [decide_eq_true hxy, Bool.true_and] at h3
          clear hxy
          obtain ⟨xw, xh, xc⟩ := x
          obtain ⟨yw, yh, yc⟩ := y
          conv => whnf
          repeat' (first | ((first | refine zs1 ?_ | refine zs2 ?_ | refine zs3 ?_ | refine zs4 ?_ | refine zs5 ?_); conv => whnf) | ((first | apply zi1 | apply zi2 | apply zi3 | apply zi4 | apply zi5) <;> intro _ <;> first | (exfalso; omega) | contradiction | (conv => whnf)))
          refine zs6 [] ?_
          conv => whnf
          repeat' (first | ((first | refine zs1 ?_ | refine zs2 ?_ | refine zs3 ?_ | refine zs4 ?_ | refine zs5 ?_); conv => whnf) | ((first | apply zi1 | apply zi2 | apply zi3 | apply zi4 | apply zi5) <;> intro _ <;> first | (exfalso; omega) | contradiction | (conv => whnf)) | (refine VAny.ix encM_len k rfl rfl hx ?_; conv => whnf) | (refine VAny.ix encM_len k rfl rfl hy ?_; conv => whnf) | (refine VCall.intro (c _) ?_; conv => whnf))
          refine LEnd.intro (k + 1) ⟨by omega, by omega, h3⟩ (by omega) ?_
          conv => whnf
          refine Retell.turn ⟨[], 0, [], []⟩ (TurnOk.mk' _ _ [] [] (OutOk.lift _) rfl (by decide) zb trivial trivial rfl) zw zm
        · rw [decide_eq_false hxy] at c
          rw [decide_eq_false hxy, Bool.false_and] at h3
          subst h3
          clear hxy
          obtain ⟨xw, xh, xc⟩ := x
          obtain ⟨yw, yh, yc⟩ := y
          conv => whnf
          repeat' (first | ((first | refine zs1 ?_ | refine zs2 ?_ | refine zs3 ?_ | refine zs4 ?_ | refine zs5 ?_); conv => whnf) | ((first | apply zi1 | apply zi2 | apply zi3 | apply zi4 | apply zi5) <;> intro _ <;> first | (exfalso; omega) | contradiction | (conv => whnf)))
          refine zs6 [] ?_
          conv => whnf
          repeat' (first | ((first | refine zs1 ?_ | refine zs2 ?_ | refine zs3 ?_ | refine zs4 ?_ | refine zs5 ?_); conv => whnf) | ((first | apply zi1 | apply zi2 | apply zi3 | apply zi4 | apply zi5) <;> intro _ <;> first | (exfalso; omega) | contradiction | (conv => whnf)) | (refine VAny.ix encM_len k rfl rfl hx ?_; conv => whnf) | (refine VAny.ix encM_len k rfl rfl hy ?_; conv => whnf) | (refine VCall.intro (c _) ?_; conv => whnf))
          exact VOut.same rfl
      · rw [drop_ne h4 h5] at h3
        subst h3
        conv => whnf
        repeat' (first | ((first | refine zs1 ?_ | refine zs2 ?_ | refine zs3 ?_ | refine zs4 ?_ | refine zs5 ?_); conv => whnf) | ((first | apply zi1 | apply zi2 | apply zi3 | apply zi4 | apply zi5) <;> intro _ <;> first | (exfalso; omega) | contradiction | (conv => whnf)))
        refine zs6 [] ?_
        conv => whnf
        repeat' (first | ((first | refine zs1 ?_ | refine zs2 ?_ | refine zs3 ?_ | refine zs4 ?_ | refine zs5 ?_); conv => whnf) | ((first | apply zi1 | apply zi2 | apply zi3 | apply zi4 | apply zi5) <;> intro _ <;> first | (exfalso; omega) | contradiction | (conv => whnf)))
        exact VOut.same rfl
    · have hk : k = a.length := by omega
      rw [hk, ← len_dec (by omega)] at h3
      rw [h3, hk]
      conv => whnf
      repeat' (first | ((first | refine zs1 ?_ | refine zs2 ?_ | refine zs3 ?_ | refine zs4 ?_ | refine zs5 ?_); conv => whnf) | ((first | apply zi1 | apply zi2 | apply zi3 | apply zi4 | apply zi5) <;> intro _ <;> first | (exfalso; omega) | contradiction | (conv => whnf)))
      exact VOut.same rfl
end Go.Proofs.Ytkbbfeljlepgoaa

namespace Riv
theorem canon_shape {a b : List Int} {W H : Nat} (hW : 2 ≤ W) (hL : a.length = W * H) (h1 : a.length ≤ 160) : ∃ is : List Nat, chg a b W = is.map (fun i : Nat => (List.range a.length).filter fun k => decide (at0 (names W (diffs a b)) k = (i : Int))) ∧ is.Pairwise (· < ·) ∧ ∀ i ∈ is, i < a.length ∧ at0 (names W (diffs a b)) i = (i : Int) := by
  refine ⟨_, chg_eq hW hL h1, List.Pairwise.filter _ List.pairwise_lt_range, fun i hi => ?_⟩
  obtain ⟨g1, g2⟩ := List.mem_filter.1 hi
  exact ⟨List.mem_range.1 g1, of_decide_eq_true g2⟩
theorem chg_flat {a b : List Int} {W H : Nat} (hW : 2 ≤ W) (hL : a.length = W * H) (h1 : a.length ≤ 160) : (chg a b W).flatten.Perm ((List.range a.length).filter fun n => decide (at0 a n ≠ at0 b n)) := by
  refine (List.perm_ext_iff_of_nodup ?_ ?_).2 fun n => ?_
  · obtain ⟨is, e, hp, _⟩ := canon_shape (b := b) hW hL h1
    unfold List.Nodup
    rw [List.pairwise_flatten, e]
    refine ⟨fun l hl => ?_, ?_⟩
    · obtain ⟨i, _, rfl⟩ := List.mem_map.1 hl
      exact List.Pairwise.imp (fun h => Nat.ne_of_lt h) (List.Pairwise.filter _ List.pairwise_lt_range)
    · rw [List.pairwise_map]
      refine List.Pairwise.imp (fun {i j} hij x hx y hy exy => ?_) hp
      subst exy
      have e1 := of_decide_eq_true (List.mem_filter.1 hx).2
      have e2 := of_decide_eq_true (List.mem_filter.1 hy).2
      omega
  · exact List.Pairwise.imp (fun h => Nat.ne_of_lt h) (List.Pairwise.filter _ List.pairwise_lt_range)
  · rw [List.mem_flatten, List.mem_filter, List.mem_range]
    simp only [decide_eq_true_eq]
    constructor
    · rintro ⟨c, hc, hn⟩
      exact (chg_mem hW hL h1 hc).2.2.2 n hn
    · rintro ⟨h2, h3⟩
      exact chg_has hW hL h1 h2 h3
theorem chg_many {a b : List Int} {W H : Nat} (hW : 2 ≤ W) (hL : a.length = W * H) (h1 : a.length ≤ 160) : ((chg a b W).map List.length).sum = (List.range a.length).countP fun n => decide (at0 a n ≠ at0 b n) := by
  rw [← List.length_flatten, (chg_flat hW hL h1).length_eq, List.countP_eq_length_filter]
theorem chg_heads {a b : List Int} {W H : Nat} (hW : 2 ≤ W) (hL : a.length = W * H) (h1 : a.length ≤ 160) : (chg a b W).Pairwise fun c d => c.headD 0 < d.headD 0 := by
  obtain ⟨is, e, hp, hi⟩ := canon_shape (b := b) hW hL h1
  have hN := (names_ok (mk := diffs a b) hW (by rw [diffs_len]; exact h1)).1
  have hh : ∀ i ∈ is, ((List.range a.length).filter fun k => decide (at0 (names W (diffs a b)) k = (i : Int))).headD 0 = i := fun i hi2 => by
    obtain ⟨k1, k2⟩ := hi i hi2
    refine head_least (List.Pairwise.filter _ List.pairwise_lt_range) (List.mem_filter.2 ⟨List.mem_range.2 k1, decide_eq_true k2⟩) fun k hk => ?_
    have h3 := of_decide_eq_true (List.mem_filter.1 hk).2
    have hb : bat (diffs a b) k = true := by
      cases hb : bat (diffs a b) k with
      | true => rfl
      | false => have := hN.non k hb; omega
    obtain ⟨y, g1, g2, g3⟩ := hN.con k hb
    have := g3 k (Con.refl hb)
    omega
  rw [e, List.pairwise_map]
  refine List.Pairwise.imp_of_mem (fun {i j} hi1 hj1 hij => ?_) hp
  rw [hh i hi1, hh j hj1]
  exact hij
end Riv

namespace Riv
theorem bat_setv {m : List Bool} {k : Nat} {v : Bool} (hk : k < m.length) (j : Nat) : bat (m.set k v) j = if j = k then v else bat m j := by
  unfold bat
  rw [List.getD_eq_getElem?_getD, List.getElem?_set, List.getD_eq_getElem?_getD]
  by_cases h : k = j
  · subst h; simp [hk]
  · have h2 : ¬ j = k := fun e => h e.symm
    simp [h, h2]
def Gw (slow : Int) (CS : List (List Nat)) (i : Nat) (cs : List Nat) (j : Nat) (G : List Bool) : Prop :=
  ∀ n, bat G n = true ↔ (∃ c ∈ CS.take i, n ∈ c ∧ (c.length : Int) ≤ slow) ∨ (n ∈ cs.take j ∧ (cs.length : Int) ≤ slow)
theorem Gw.zero (slow : Int) (CS : List (List Nat)) (L : Nat) : Gw slow CS 0 [] 0 (List.replicate L false) := fun n => by
  have : bat (List.replicate L false) n = false := by
    unfold bat
    rw [List.getD_eq_getElem?_getD, List.getElem?_replicate]
    split <;> rfl
  rw [this]
  simp
theorem Gw.start {slow : Int} {CS : List (List Nat)} {i : Nat} {G : List Bool} (h : Gw slow CS i [] 0 G) (cs : List Nat) : Gw slow CS i cs 0 G := fun n => by
  rw [h n]
  simp
theorem Gw.step {slow : Int} {CS : List (List Nat)} {i j n0 : Nat} {cs : List Nat} {G : List Bool} (hone : ∀ c ∈ CS, ∀ d ∈ CS, ∀ n, n ∈ c → n ∈ d → c = d) (hcs : CS[i]? = some cs) (hj : cs[j]? = some n0) (hn : n0 < G.length) (h : Gw slow CS i cs j G) :
    Gw slow CS i cs (j + 1) (G.set n0 (decide ((cs.length : Int) ≤ slow))) := fun n => by
  have hc := List.mem_of_getElem? hcs
  have h0 := List.mem_of_getElem? hj
  have ht : cs.take (j + 1) = cs.take j ++ [n0] := by rw [List.take_add_one, hj]; rfl
  rw [bat_setv hn, ht]
  by_cases e : n = n0
  · subst e
    rw [if_pos rfl, decide_eq_true_eq]
    constructor
    · intro hl
      exact .inr ⟨List.mem_append_right _ List.mem_cons_self, hl⟩
    · rintro (⟨c, g1, g2, g3⟩ | ⟨_, g⟩)
      · have := hone c (List.mem_of_mem_take g1) cs hc n g2 h0
        rw [← this]; exact g3
      · exact g
  · rw [if_neg e, h n]
    constructor
    · rintro (g | ⟨g1, g2⟩)
      · exact .inl g
      · exact .inr ⟨List.mem_append_left _ g1, g2⟩
    · rintro (g | ⟨g1, g2⟩)
      · exact .inl g
      · rcases List.mem_append.1 g1 with g1 | g1
        · exact .inr ⟨g1, g2⟩
        · exact absurd (List.mem_singleton.1 g1) e
theorem Gw.next {slow : Int} {CS : List (List Nat)} {i : Nat} {cs : List Nat} {G : List Bool} (hcs : CS[i]? = some cs) (h : Gw slow CS i cs cs.length G) : Gw slow CS (i + 1) [] 0 G := fun n => by
  have ht : CS.take (i + 1) = CS.take i ++ [cs] := by rw [List.take_add_one, hcs]; rfl
  rw [h n, ht, List.take_length]
  constructor
  · rintro (⟨c, g1, g2⟩ | ⟨g1, g2⟩)
    · exact .inl ⟨c, List.mem_append_left _ g1, g2⟩
    · exact .inl ⟨cs, List.mem_append_right _ List.mem_cons_self, g1, g2⟩
  · rintro (⟨c, g1, g2⟩ | ⟨g1, _⟩)
    · rcases List.mem_append.1 g1 with g1 | g1
      · exact .inl ⟨c, g1, g2⟩
      · rw [List.mem_singleton.1 g1] at g2
        exact .inr g2
    · simp at g1
theorem Gw.fin {slow : Int} {CS : List (List Nat)} {G : List Bool} (h : Gw slow CS CS.length [] 0 G) (n : Nat) : bat G n = true ↔ ∃ c ∈ CS, n ∈ c ∧ (c.length : Int) ≤ slow := by
  rw [h n, List.take_length]
  simp
def sumL (CS : List (List Nat)) (i : Nat) : Nat := ((CS.take i).map List.length).sum
theorem sumL_succ {CS : List (List Nat)} {i : Nat} {cs : List Nat} (hcs : CS[i]? = some cs) : sumL CS (i + 1) = sumL CS i + cs.length := by
  unfold sumL
  rw [List.take_add_one, hcs, List.map_append, List.sum_append]
  simp
def cntD (a b : List Int) (n : Nat) : Nat := (List.range n).countP fun n => decide (at0 a n ≠ at0 b n)
theorem cntD_succ (a b : List Int) (n : Nat) : cntD a b (n + 1) = cntD a b n + if at0 a n = at0 b n then 0 else 1 := by
  unfold cntD
  rw [List.range_succ, List.countP_append]
  congr 1
  by_cases h : at0 a n = at0 b n <;> simp [h]
theorem cntD_le (a b : List Int) (n : Nat) : cntD a b n ≤ n := by
  unfold cntD
  have := List.countP_le_length (p := fun n => decide (at0 a n ≠ at0 b n)) (l := List.range n)
  rwa [List.length_range] at this
theorem sumL_ge {CS : List (List Nat)} (h : ∀ c ∈ CS, 0 < c.length) : ∀ i, i ≤ CS.length → i ≤ sumL CS i
  | 0, _ => Nat.zero_le _
  | i + 1, hi => by
    have h1 := sumL_ge h i (by omega)
    have h2 : CS[i]? = some CS[i] := List.getElem?_eq_getElem (by omega)
    have h3 := h _ (List.getElem_mem (h := (by omega : i < CS.length)))
    rw [sumL_succ h2]
    omega
structure Yr (W : Nat) (slow : Int) (a b now nxt : List Int) (CS : List (List Nat)) : Prop where
  one : ∀ c ∈ CS, ∀ d ∈ CS, ∀ n, n ∈ c → n ∈ d → c = d
  mem : ∀ cs ∈ CS, 0 < cs.length ∧ cs.length ≤ a.length ∧ ∀ n ∈ cs, n < a.length ∧ at0 a n ≠ at0 b n
  hd : ∀ j c d, CS[j]? = some c → CS[j + 1]? = some d → c.headD 0 < d.headD 0
  sum : sumL CS CS.length = cntD a b a.length
  few : CS.length ≤ a.length
  law : ∀ n, at0 nxt n = if ∃ c ∈ CS, n ∈ c ∧ (c.length : Int) ≤ slow then at0 b n else at0 now n
theorem yr_ok {W H : Nat} {l : List (List Int)} (h : ∀ c ∈ l, MOk W H c) (slow : Int) {y : Nat} (hy : y + 1 < l.length) :
    Yr W slow (l.getD y []) (l.getD (y + 1) []) (lawAt W l slow y) (lawAt W l slow (y + 1)) (chg (l.getD y []) (l.getD (y + 1) []) W) := by
  have hY := yrs_of (by omega) h
  have hm : ∀ y, y < l.length → MOk W H (l.getD y []) := fun y hy => by
    have e : l.getD y [] = l[y] := by rw [List.getD_eq_getElem?_getD, List.getElem?_eq_getElem hy]; rfl
    rw [e]; exact h _ (List.getElem_mem hy)
  have o := hm y (by omega)
  have hW := o.few.2.1
  have h1 : (l.getD y []).length ≤ 160 := by have := o.few.1; omega
  have hL := o.len
  refine ⟨fun c hc d hd n hn hm => chg_one hW hL h1 hc hd hn hm, fun cs hcs => ?_, fun j c d hc hd => ?_, ?_, ?_, fun n => lawAt_at hY slow hy⟩
  · obtain ⟨g1, _, g3, g4⟩ := chg_mem hW hL h1 hcs
    exact ⟨List.length_pos_iff.2 g1, g3, g4⟩
  · have hp := List.pairwise_iff_getElem.1 (chg_heads (b := l.getD (y + 1) []) hW hL h1) j (j + 1) (List.getElem?_eq_some_iff.1 hc).1 (List.getElem?_eq_some_iff.1 hd).1 (by omega)
    rw [(List.getElem?_eq_some_iff.1 hc).2, (List.getElem?_eq_some_iff.1 hd).2] at hp
    exact hp
  · unfold sumL cntD
    rw [List.take_length]
    exact chg_many hW hL h1
  · have h2 := sumL_ge (CS := chg (l.getD y []) (l.getD (y + 1) []) W) (fun c hc => List.length_pos_iff.2 (chg_mem hW hL h1 hc).1) _ (Nat.le_refl _)
    have h3 : sumL (chg (l.getD y []) (l.getD (y + 1) []) W) (chg (l.getD y []) (l.getD (y + 1) []) W).length = cntD (l.getD y []) (l.getD (y + 1) []) (l.getD y []).length := by
      unfold sumL cntD
      rw [List.take_length]
      exact chg_many hW hL h1
    have h4 := cntD_le (l.getD y []) (l.getD (y + 1) []) (l.getD y []).length
    omega
end Riv


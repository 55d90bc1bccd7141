/- Part 3 of the proof that passageSeen: with fewer sights word goes no faster. No condition. -/
import Derived.Test.YtoeendggmalcpaaSe2
set_option linter.unusedVariables false
set_option linter.unusedSimpArgs false
open Go.Vm
open Clip (Pn Sg Nt Bd Rt Sp Co Pl okP okD crs okP_iff okD_iff sgE chkG chk)
namespace Go.Proofs.Ytoeendggmalcpaa.St
set_option maxRecDepth 20000
set_option maxHeartbeats 2000000

theorem vc_from (n a b : Int) (h : Hp) : VC Try.prog 146 [I n, I a, I b] h (B (decide (a ≤ n ∧ n ≤ b))) h := by
  refine VC.body Try.func146 rfl Try.ntmps146 Try.call146 (h.grows_refl) rfl ?_; conv => whnf
  repeat' (first | ((first | refine zs1 ?_ | refine zs2 ?_ | refine zs3 ?_ | refine zs4 ?_ | refine zs5 ?_ | refine zs6 [] ?_); conv => whnf) | ((first | apply zi1 | apply zi2 | apply zi3 | apply zi4 | apply zi5) <;> intro _ <;> conv => whnf))
  all_goals (refine VOut.same ?_; simp [V.ren]; try omega)
def PnB (p : Pn) : Prop := (-2000000 ≤ p.x ∧ p.x ≤ 2000000) ∧ (-2000000 ≤ p.y ∧ p.y ≤ 2000000)
theorem crs_b {a b : Pn} (ha : PnB a) (hb : PnB b) : (-4000000000000 ≤ a.x * b.y ∧ a.x * b.y ≤ 4000000000000) ∧ (-4000000000000 ≤ a.y * b.x ∧ a.y * b.x ≤ 4000000000000) := by
  have h1 := Clip.mulb (A := 2000000) (B := 2000000) ha.1 hb.2
  have h2 := Clip.mulb (A := 2000000) (B := 2000000) ha.2 hb.1
  omega
theorem vc_cross (a b : Pn) (h : Hp) (ha : PnB a) (hb : PnB b) : VC Try.prog 150 [vPn a, vPn b] h (I (crs a b)) h := by
  have hc := crs_b ha hb
  refine VC.body Try.func150 rfl Try.ntmps150 Try.call150 (h.grows_refl) rfl ?_; conv => whnf
  repeat' (first | ((first | refine zs1 ?_ | refine zs2 ?_ | refine zs3 ?_ | refine zs4 ?_ | refine zs5 ?_ | refine zs6 [] ?_); conv => whnf) | ((first | apply zi1 | apply zi2 | apply zi3 | apply zi4 | apply zi5) <;> intro _ <;> conv => whnf))
  exact VOut.same rfl
theorem vne60 (a b c d : Int) : vaggeq Try.prog .neq 104 (.agg [I a, I b]) (.agg [I c, I d]) = some (B (decide (¬ (a = c ∧ b = d)))) := by
  have : (!((a == c) && ((b == d) && true))) = decide (¬ (a = c ∧ b = d)) := by
    rw [Bool.eq_iff_iff, decide_eq_true_eq]; simp [-not_and]; omega
  rw [← this]
  unfold vaggeq
  rw [show eqTop Try.prog 104 = some (Sh.cons 0 1 false Sh.int (Sh.cons 1 1 false Sh.int Sh.nil)) by kernel_rfl]
  rfl
theorem vc_turned (d : Pn) (h : Hp) : VC Try.prog 149 [vPn d] h (B (okD d)) h := by
  unfold okD
  refine VC.body Try.func149 rfl Try.ntmps149 Try.call149 (h.grows_refl) rfl ?_; conv => whnf
  repeat' (first | ((first | refine zs1 ?_ | refine zs2 ?_ | refine zs3 ?_ | refine zs4 ?_ | refine zs5 ?_ | refine zs6 [] ?_); conv => whnf) | ((first | apply zi1 | apply zi2 | apply zi3 | apply zi4 | apply zi5) <;> intro _ <;> conv => whnf) | (refine VAgg.intro (vne60 _ _ _ _) ?_; conv => whnf) | (refine VCall.intro (vc_from _ _ _ _) ?_; conv => whnf))
  all_goals (refine VOut.dec ?_; first | (simp only [decide_eq_true_eq]; omega) | (simp; omega) | (simp; done))
theorem vc_landed (p : Pn) (h : Hp) : VC Try.prog 148 [vPn p] h (B (okP p)) h := by
  unfold okP
  refine VC.body Try.func148 rfl Try.ntmps148 Try.call148 (h.grows_refl) rfl ?_; conv => whnf
  repeat' (first | ((first | refine zs1 ?_ | refine zs2 ?_ | refine zs3 ?_ | refine zs4 ?_ | refine zs5 ?_ | refine zs6 [] ?_); conv => whnf) | ((first | apply zi1 | apply zi2 | apply zi3 | apply zi4 | apply zi5) <;> intro _ <;> conv => whnf) | (refine VCall.intro (vc_from _ _ _ _) ?_; conv => whnf))
  all_goals (refine VOut.dec ?_; first | (simp only [decide_eq_true_eq]; omega) | (simp; omega) | (simp; done))
/-! ### all, of points -/

def fidx {α : Type} (q : α → Bool) : List α → Int → Int
  | [], _ => -1
  | a :: r, i => bif q a then i else fidx q r (i + 1)
theorem fidx_at {α : Type} {q : α → Bool} {a : α} {l : List α} {k : Nat} (ha : l[k]? = some a) : fidx q (l.drop k) k = bif q a then (k : Int) else fidx q (l.drop (k + 1)) ((k + 1 : Nat) : Int) := by
  obtain ⟨h1, rfl⟩ := List.getElem?_eq_some_iff.1 ha
  rw [List.drop_eq_getElem_cons h1, fidx]; rfl
theorem fidx_nn {α : Type} {q : α → Bool} : ∀ (l : List α) (i : Int), 0 ≤ i → ((0 ≤ fidx q l i) ↔ l.any q = true)
  | [], i, _ => by simp [fidx]
  | a :: r, i, hi => by
    rw [fidx, List.any_cons]
    cases h : q a
    · rw [cond_false, fidx_nn r (i + 1) (by omega), Bool.false_or]
    · rw [cond_true, Bool.true_or]; simp [hi]
theorem vc_IndexP (l : List Pn) (q : Pn → Bool) (g : FuncId) (caps : List D) (hl : l.length ≤ 200000000) (hso : ∀ (e : Pn) (h : Hp), VC Try.prog g ([vPn e] ++ D.vs caps) h (B (q e)) h) (h : Hp) :
    VC Try.prog 169 [pns l, .func (.func g) [] (D.vs caps)] h (I (fidx q l 0)) h := by
  obtain ⟨E, hE⟩ : ∃ E, E = fidx q l 0 := ⟨_, rfl⟩
  rw [← hE]
  refine VC.body Try.func169 rfl Try.ntmps169 Try.call169 (h.grows_refl) rfl ?_; conv => whnf
  rw [rens_dvs]
  refine VCode.lp (fun k : Nat => [(0, pns l), (1, .func (.func g) [] (D.vs caps)), (7, I l.length), (8, I k)]) (fun _ => []) (fun k => k ≤ l.length ∧ E = fidx q (l.drop k) k) (fun k => l.length - k) 0 ⟨Nat.zero_le _, hE⟩ ?_ ?_
  · conv => whnf
    refine Retell.turn ⟨[], 0, [], []⟩ (TurnOk.mk' _ _ [] [] (OutOk.lift _) rfl (by decide) zb trivial trivial rfl) zv zm
  · rintro k ⟨h1, h2⟩
    conv => whnf
    refine VIte.dec (fun h3 => ?_) (fun h3 => ?_)
    · have ha : l[k]? = some l[k] := List.getElem?_eq_getElem (by omega)
      generalize l[k] = a at ha
      rw [fidx_at ha] at h2
      conv => whnf
      repeat' (first | ((first | refine zs1 ?_ | refine zs2 ?_ | refine zs3 ?_ | refine zs4 ?_ | refine zs5 ?_ | refine zs6 [] ?_); conv => whnf) | ((first | apply zi1 | apply zi2 | apply zi3 | apply zi4 | apply zi5) <;> intro _ <;> conv => whnf) | (refine VAny.ix encPn_len k (by omega) rfl ha ?_; conv => whnf))
      refine VCall.intro (hso a _) ?_
      conv => whnf
      cases hq : q a
      · rw [hq] at h2
        conv => whnf
        repeat (first | ((first | refine zs1 ?_ | refine zs2 ?_ | refine zs3 ?_ | refine zs4 ?_ | refine zs5 ?_ | refine zs6 [] ?_); conv => whnf))
        refine LEnd.intro (k + 1) ⟨by omega, h2⟩ (by omega) ?_
        conv => whnf
        refine Retell.turn ⟨[], 0, [], []⟩ (TurnOk.mk' _ _ [] [] (OutOk.lift _) rfl (by decide) zb trivial trivial rfl) zv zm
      · rw [hq] at h2
        rw [h2]
        conv => whnf
        repeat (first | ((first | refine zs1 ?_ | refine zs2 ?_ | refine zs3 ?_ | refine zs4 ?_ | refine zs5 ?_ | refine zs6 [] ?_); conv => whnf))
        exact VOut.same rfl
    · rw [List.drop_of_length_le (by omega), fidx] at h2
      rw [h2]
      conv => whnf
      repeat (first | ((first | refine zs1 ?_ | refine zs2 ?_ | refine zs3 ?_ | refine zs4 ?_ | refine zs5 ?_ | refine zs6 [] ?_); conv => whnf))
      exact VOut.same rfl
theorem vc_ContP (l : List Pn) (q : Pn → Bool) (g : FuncId) (caps : List D) (hl : l.length ≤ 200000000) (hso : ∀ (e : Pn) (h : Hp), VC Try.prog g ([vPn e] ++ D.vs caps) h (B (q e)) h) (h : Hp) :
    VC Try.prog 163 [pns l, .func (.func g) [] (D.vs caps)] h (B (decide (l.any q = true))) h := by
  have e := fidx_nn (q := q) l 0 (Int.le_refl _)
  have c := fun h => vc_IndexP l q g caps hl hso h
  generalize fidx q l 0 = E at e c
  refine VC.body Try.func163 rfl Try.ntmps163 Try.call163 (h.grows_refl) rfl ?_; conv => whnf
  rw [rens_dvs]
  repeat' (first | ((first | refine zs1 ?_ | refine zs2 ?_ | refine zs3 ?_ | refine zs4 ?_ | refine zs5 ?_ | refine zs6 [] ?_); conv => whnf) | ((first | apply zi1 | apply zi2 | apply zi3 | apply zi4 | apply zi5) <;> intro _ <;> conv => whnf) | (refine VCall.intro (c _) ?_; conv => whnf))
  refine VOut.dec ?_
  rw [decide_eq_true_eq]
  exact e
theorem vc_all1 (q : Pn → Bool) (g : FuncId) (hso : ∀ (e : Pn) (h : Hp), VC Try.prog g [vPn e] h (B (q e)) h) (p : Pn) (h : Hp) : VC Try.prog 164 ([vPn p] ++ D.vs [.pt [.func (.func g) [] []]]) h (B (!q p)) h := by
  have c := fun h => hso p h
  refine VC.body Try.func164 rfl Try.ntmps164 Try.call164 (h.grows_refl) rfl ?_; conv => whnf
  repeat' (first | ((first | refine zs1 ?_ | refine zs2 ?_ | refine zs3 ?_ | refine zs4 ?_ | refine zs5 ?_ | refine zs6 [] ?_); conv => whnf) | ((first | apply zi1 | apply zi2 | apply zi3 | apply zi4 | apply zi5) <;> intro _ <;> conv => whnf) | (refine VCall.intro (c _) ?_; conv => whnf))
  exact VOut.same rfl
theorem vc_all (l : List Pn) (q : Pn → Bool) (g : FuncId) (hl : l.length ≤ 200000000) (hso : ∀ (e : Pn) (h : Hp), VC Try.prog g [vPn e] h (B (q e)) h) (h : Hp) : VC Try.prog 147 [pns l, .func (.func g) [] []] h (B (l.all q)) h := by
  have c := fun h => vc_ContP l (fun p => !q p) 164 [.pt [.func (.func g) [] []]] hl (fun p h => vc_all1 q g hso p h) h
  have e : (!decide ((l.any fun p => !q p) = true)) = l.all q := by
    rw [List.all_eq_not_any_not]
    generalize (l.any fun p => !q p) = z
    cases z <;> rfl
  rw [← e]
  generalize decide ((l.any fun p => !q p) = true) = E at c
  refine VC.body Try.func147 rfl Try.ntmps147 Try.call147 (h.grows_refl) rfl ?_; conv => whnf
  repeat (first | ((first | refine zs1 ?_ | refine zs2 ?_ | refine zs3 ?_ | refine zs4 ?_ | refine zs5 ?_ | refine zs6 [] ?_); conv => whnf))
  refine VCall.intro (VC.give (args' := [pns l, .func (.func 164) [] [.fp [.func (.func g) [] []]]]) (loc' := [.dead]) [(0, [.func (.func g) [] []])] [] (OutOk.lift _) zb zf (by exact FmAll.nil) rfl zv (c _)) ?_
  conv => whnf
  repeat (first | ((first | refine zs1 ?_ | refine zs2 ?_ | refine zs3 ?_ | refine zs4 ?_ | refine zs5 ?_ | refine zs6 [] ?_); conv => whnf))
  exact VOut.same rfl
end Go.Proofs.Ytoeendggmalcpaa.St

open Go.Vm
open Clip (Pn Sg Nt Bd Rt Sp Co Pl okP okD crs okP_iff okD_iff sgE chkG chk)
namespace Go.Proofs.Ytoeendggmalcpaa.St
set_option maxRecDepth 20000
set_option maxHeartbeats 4000000

theorem chkG_at {n : Int} {l : List Sg} {k : Nat} {s : Sg} (h : l[k]? = some s) : chkG n (l.drop k) = if sgE n s = 0 then chkG n (l.drop (k + 1)) else sgE n s := by
  obtain ⟨hlt, rfl⟩ := List.getElem?_eq_some_iff.1 h
  rw [List.drop_eq_getElem_cons hlt, chkG]
theorem okD_b {d : Pn} (h : okD d = true) : PnB d := by
  have := okD_iff.1 h
  exact ⟨by omega, by omega⟩
theorem vc_check (N : Nt) (h : Hp) (hn : N.ps.length ≤ 4000000) (hm : N.ss.length ≤ 4000000) : VC Try.prog 132 [vN N] h (I (chk N)) h := by
  obtain ⟨E, hE⟩ : ∃ E, E = chk N := ⟨_, rfl⟩
  rw [← hE]
  unfold chk at hE
  have cA := fun h => vc_all N.ps okP 148 (by omega) vc_landed h
  generalize hP : N.ps.all okP = P at cA hE
  refine VC.body Try.func132 rfl Try.ntmps132 Try.call132 (h.grows_refl) rfl ?_; conv => whnf
  repeat' (first | ((first | refine zs1 ?_ | refine zs2 ?_ | refine zs3 ?_ | refine zs4 ?_ | refine zs5 ?_ | refine zs6 [] ?_); conv => whnf) | ((first | apply zi1 | apply zi2 | apply zi3 | apply zi4 | apply zi5) <;> intro _ <;> conv => whnf) | (refine VCall.intro (vc_from _ _ _ _) ?_; conv => whnf) | (refine VCall.intro (cA _) ?_; conv => whnf))
  · rw [if_pos (by omega)] at hE; rw [hE]; exact VOut.same rfl
  · rw [if_pos (by omega)] at hE; rw [hE]; exact VOut.same rfl
  · rename_i h1 h2 h3
    rw [if_neg (by omega), if_neg (by simpa using h3)] at hE; rw [hE]; exact VOut.same rfl
  · rename_i h1 h2 h3
    rw [if_neg (by omega), if_pos (by simpa using h3)] at hE
    refine VCode.lp (fun k : Nat => [(1, .ptr (.loc 0) 0), (2, I 0), (23, sgs N.ss), (24, I N.ss.length), (25, I k)]) (fun _ => [.flat true (encN N)]) (fun k => k ≤ N.ss.length ∧ E = chkG N.ps.length (N.ss.drop k)) (fun k => N.ss.length - k) 0 ⟨Nat.zero_le _, hE⟩ ?_ ?_
    · conv => whnf
      refine Retell.turn ⟨[0], 1, [], []⟩ (TurnOk.mk' _ _ [] [] (OutOk.lift _) rfl (by decide) zb trivial trivial rfl) zv zm
    · rintro k ⟨h4, h5⟩
      conv => whnf
      refine VIte.dec (fun h6 => ?_) (fun h6 => ?_)
      · have hk : N.ss[k]? = some N.ss[k] := List.getElem?_eq_getElem (by omega)
        generalize N.ss[k] = s at hk
        rw [chkG_at hk] at h5
        have cR := fun h => vc_turned s.r h
        have cL := fun h => vc_turned s.l h
        have hs : sgE N.ps.length s = if s.f < 0 ∨ (N.ps.length : Int) - 1 < s.f ∨ s.t < 0 ∨ (N.ps.length : Int) - 1 < s.t ∨ s.f = s.t then 2 else if okD s.r = true ∧ okD s.l = true ∧ 0 < crs s.r s.l then 0 else 4 := rfl
        cases hr : okD s.r <;> cases hl : okD s.l
        all_goals (
          rw [hr] at cR hs
          rw [hl] at cL hs
          conv => whnf
          refine VAny.ix encSg_len k rfl rfl hk ?_
          conv => whnf
          try have cC := fun h => vc_cross s.r s.l h (okD_b hr) (okD_b hl)
          repeat' (first | ((first | refine zs1 ?_ | refine zs2 ?_ | refine zs3 ?_ | refine zs4 ?_ | refine zs5 ?_ | refine zs6 [] ?_); conv => whnf) | ((first | apply zi1 | apply zi2 | apply zi3 | apply zi4 | apply zi5) <;> intro _ <;> conv => whnf) | (refine VCall.intro (vc_from _ _ _ _) ?_; conv => whnf) | (refine VCall.intro (cR _) ?_; conv => whnf) | (refine VCall.intro (cL _) ?_; conv => whnf) | (refine VCall.intro (cC _) ?_; conv => whnf)))
        all_goals first
          | (rw [if_pos (by omega)] at hs; rw [hs, if_neg (by decide)] at h5; rw [h5]; exact VOut.same rfl)
          | (rw [if_neg (by omega), if_neg (by omega)] at hs; rw [hs, if_neg (by decide)] at h5; rw [h5]; exact VOut.same rfl)
          | (rw [if_neg (by omega), if_neg (by simp)] at hs; rw [hs, if_neg (by decide)] at h5; rw [h5]; exact VOut.same rfl)
          | (rw [if_neg (by omega), if_pos ⟨rfl, rfl, by omega⟩] at hs
             rw [hs, if_pos rfl] at h5
             refine LEnd.intro (k + 1) ⟨by omega, h5⟩ (by omega) ?_
             conv => whnf
             refine Retell.turn ⟨[0], 2, [], []⟩ (TurnOk.mk' _ _ [] [] (OutOk.lift _) rfl (by decide) zb trivial trivial rfl) zv zm)
      · rw [List.drop_of_length_le (by omega), chkG] at h5
        rw [h5]
        conv => whnf
        repeat' (first | ((first | refine zs1 ?_ | refine zs2 ?_ | refine zs3 ?_ | refine zs4 ?_ | refine zs5 ?_ | refine zs6 [] ?_); conv => whnf) | ((first | apply zi1 | apply zi2 | apply zi3 | apply zi4 | apply zi5) <;> intro _ <;> conv => whnf))
        exact VOut.same rfl
end Go.Proofs.Ytoeendggmalcpaa.St

open Go.Vm
open Clip (Pn Sg Nt Bd Rt Sp Co Pl okP okD crs okP_iff okD_iff sgE chkG chk NtOk SgOk pAt pAt_ok pAt_get offB offS offL chk_ok)
namespace Go.Proofs.Ytoeendggmalcpaa.St
set_option maxRecDepth 20000
set_option maxHeartbeats 4000000

def encDk (N : Nt) (p : Int) : List D := [.sl 2 N.ps.length (N.ps.flatMap encPn), .sl 6 N.ss.length (N.ss.flatMap encSg), DI p]
theorem okP_b {p : Pn} (h : (0 ≤ p.x ∧ p.x ≤ 1000) ∧ (0 ≤ p.y ∧ p.y ≤ 1000)) : PnB p := ⟨by omega, by omega⟩
def lessP (a b : Pn) : Pn := ⟨a.x - b.x, a.y - b.y⟩
theorem lessP_b {a b : Pn} (ha : (0 ≤ a.x ∧ a.x ≤ 1000) ∧ (0 ≤ a.y ∧ a.y ≤ 1000)) (hb : (0 ≤ b.x ∧ b.x ≤ 1000) ∧ (0 ≤ b.y ∧ b.y ≤ 1000)) : PnB (lessP a b) := ⟨by unfold lessP; dsimp only; omega, by unfold lessP; dsimp only; omega⟩
theorem vc_less (a b : Pn) (h : Hp) (ha : PnB a) (hb : PnB b) : VC Try.prog 165 [vPn a, vPn b] h (vPn (lessP a b)) h := by
  have h1 := ha.1
  have h2 := ha.2
  have h3 := hb.1
  have h4 := hb.2
  refine VC.body Try.func165 rfl Try.ntmps165 Try.call165 (h.grows_refl) rfl ?_; conv => whnf
  repeat' (first | ((first | refine zs1 ?_ | refine zs2 ?_ | refine zs3 ?_ | refine zs4 ?_ | refine zs5 ?_ | refine zs6 [] ?_); conv => whnf) | ((first | apply zi1 | apply zi2 | apply zi3 | apply zi4 | apply zi5) <;> intro _ <;> conv => whnf))
  exact VOut.same rfl
theorem vc_holds (s : Sg) (a b : Pn) (h : Hp) (hr : okD s.r = true) (hl : okD s.l = true) (ha : (0 ≤ a.x ∧ a.x ≤ 1000) ∧ (0 ≤ a.y ∧ a.y ≤ 1000)) (hb : (0 ≤ b.x ∧ b.x ≤ 1000) ∧ (0 ≤ b.y ∧ b.y ≤ 1000)) :
    VC Try.prog 151 [vSg s, vPn a, vPn b] h (B (decide (0 ≤ crs s.r (lessP b a) ∧ 0 ≤ crs (lessP b a) s.l))) h := by
  have hv := lessP_b hb ha
  have c1 := fun h => vc_less b a h (okP_b hb) (okP_b ha)
  have c2 := fun h => vc_cross s.r (lessP b a) h (okD_b hr) hv
  have c3 := fun h => vc_cross (lessP b a) s.l h hv (okD_b hl)
  generalize crs s.r (lessP b a) = X at c2 ⊢
  generalize crs (lessP b a) s.l = Y at c3 ⊢
  generalize lessP b a = v at c1 c2 c3
  refine VC.body Try.func151 rfl Try.ntmps151 Try.call151 (h.grows_refl) rfl ?_; conv => whnf
  repeat' (first | ((first | refine zs1 ?_ | refine zs2 ?_ | refine zs3 ?_ | refine zs4 ?_ | refine zs5 ?_ | refine zs6 [] ?_); conv => whnf) | ((first | apply zi1 | apply zi2 | apply zi3 | apply zi4 | apply zi5) <;> intro _ <;> conv => whnf) | (refine VCall.intro (c1 _) ?_; conv => whnf) | (refine VCall.intro (c2 _) ?_; conv => whnf) | (refine VCall.intro (c3 _) ?_; conv => whnf))
  all_goals (refine VOut.dec ?_; first | (simp only [decide_eq_true_eq]; omega) | (simp; omega) | (simp; done))
theorem offS_at {ps : List Pn} {l : List Sg} {k : Nat} {s : Sg} (h : l[k]? = some s) : offS ps k (l.drop k) = if offB ps s = true then (k : Int) :: offS ps ((k + 1 : Nat) : Int) (l.drop (k + 1)) else offS ps ((k + 1 : Nat) : Int) (l.drop (k + 1)) := by
  obtain ⟨hlt, rfl⟩ := List.getElem?_eq_some_iff.1 h
  rw [List.drop_eq_getElem_cons hlt, offS]; rfl
theorem offB_eq {ps : List Pn} {s : Sg} {a b : Pn} (ha : pAt ps s.f = a) (hb : pAt ps s.t = b) : (!offB ps s) = decide (0 ≤ crs s.r (lessP b a) ∧ 0 ≤ crs (lessP b a) s.l) := by
  unfold offB lessP
  rw [ha, hb]
  generalize crs s.r _ = X
  generalize crs _ s.l = Y
  rw [Bool.eq_iff_iff, decide_eq_true_eq]
  simp
theorem vc_off (N : Nt) (p : Int) (h : Hp) (o : NtOk N) : VC Try.prog 133 [.fp (encDk N p)] h (ints (offL N)) h := by
  have hn := o.n
  have hm := o.m
  obtain ⟨O, hO⟩ : ∃ O, O = offL N := ⟨_, rfl⟩
  rw [← hO]
  refine VC.body Try.func133 rfl Try.ntmps133 Try.call133 (h.grows_refl) rfl ?_; conv => whnf
  repeat' (first | ((first | refine zs1 ?_ | refine zs2 ?_ | refine zs3 ?_ | refine zs4 ?_ | refine zs5 ?_ | refine zs6 [] ?_); conv => whnf) | ((first | apply zi1 | apply zi2 | apply zi3 | apply zi4 | apply zi5) <;> intro _ <;> conv => whnf))
  refine VCode.lp (fun y : Nat × List Int => [(0, .fp (encDk N p)), (3, .gl (.loc 0) 1 y.2.length), (10, sgs N.ss), (11, I N.ss.length), (12, I y.1)]) (fun y => [.flat true (y.2.flatMap Vm.encI)]) (fun y => y.1 ≤ N.ss.length ∧ y.2.length ≤ y.1 ∧ O = y.2 ++ offS N.ps y.1 (N.ss.drop y.1)) (fun y => N.ss.length - y.1) (0, []) ⟨Nat.zero_le _, Nat.le_refl _, hO⟩ ?_ ?_
  · conv => whnf
    refine Retell.turn ⟨[0], 0, [], []⟩ (TurnOk.mk' _ _ [] [] (OutOk.lift _) rfl (by decide) zb trivial trivial rfl) zv zm
  · rintro ⟨k, w⟩ ⟨h1, h2, h3⟩
    dsimp only at h1 h2 h3
    conv => whnf
    refine VIte.dec (fun h4 => ?_) (fun h4 => ?_)
    · have hk : N.ss[k]? = some N.ss[k] := List.getElem?_eq_getElem (by omega)
      have so := o.s N.ss[k] (List.getElem_mem (by omega))
      generalize N.ss[k] = s at hk so
      have sf := so.f
      have st := so.t
      have hf : N.ps[s.f.toNat]? = some (N.ps[s.f.toNat]'(by omega)) := List.getElem?_eq_getElem _
      have ht : N.ps[s.t.toNat]? = some (N.ps[s.t.toNat]'(by omega)) := List.getElem?_eq_getElem _
      have pf := pAt_ok o sf
      have pt := pAt_ok o st
      rw [pAt_get hf] at pf
      rw [pAt_get ht] at pt
      have hb := offB_eq (s := s) (pAt_get hf) (pAt_get ht)
      generalize N.ps[s.f.toNat]'(by omega) = a at hf pf hb
      generalize N.ps[s.t.toNat]'(by omega) = b at ht pt hb
      have cH := fun h => vc_holds s a b h so.r so.l pf pt
      rw [← hb] at cH
      rw [offS_at hk] at h3
      cases hB : offB N.ps s
      all_goals (
        rw [hB] at cH h3
        conv => whnf
        refine VAny.ix encSg_len k rfl rfl hk ?_
        conv => whnf
        repeat' (first | ((first | refine zs1 ?_ | refine zs2 ?_ | refine zs3 ?_ | refine zs4 ?_ | refine zs5 ?_ | refine zs6 [] ?_); conv => whnf) | ((first | apply zi1 | apply zi2 | apply zi3 | apply zi4 | apply zi5) <;> intro _ <;> conv => whnf) | (refine VAny.ix encPn_len s.f.toNat (by omega) rfl hf ?_; conv => whnf) | (refine VAny.ix encPn_len s.t.toNat (by omega) rfl ht ?_; conv => whnf) | (refine VCall.intro (cH _) ?_; conv => whnf)))
      all_goals try (rename_i hz; exact absurd rfl hz)
      · rw [if_neg (by decide)] at h3
        refine LEnd.intro (k + 1, w) ⟨by dsimp only; omega, by dsimp only; omega, h3⟩ (by dsimp only; omega) ?_
        conv => whnf
        refine Retell.turn ⟨[0], 2, [], []⟩ (TurnOk.mk' _ _ [] [] (OutOk.lift _) rfl (by decide) zb trivial trivial rfl) zv zm
      · rw [if_pos rfl] at h3
        refine VMem.app1 (l := w) (k : Int) Vm.encI_len rfl rfl rfl rfl rfl (by omega) ?_
        conv => whnf
        repeat' (first | ((first | refine zs1 ?_ | refine zs2 ?_ | refine zs3 ?_ | refine zs4 ?_ | refine zs5 ?_ | refine zs6 [] ?_); conv => whnf) | ((first | apply zi1 | apply zi2 | apply zi3 | apply zi4 | apply zi5) <;> intro _ <;> conv => whnf))
        refine LEnd.intro (k + 1, w ++ [(k : Int)]) ⟨by dsimp only; omega, by dsimp only; rw [List.length_append]; simp only [List.length_singleton]; omega, by dsimp only; rw [h3, List.append_assoc]; rfl⟩ (by dsimp only; omega) ?_
        conv => whnf
        rw [List.length_append]
        refine Retell.turn ⟨[3], 4, [], []⟩ (TurnOk.mk' _ _ [] [] (OutOk.lift _) rfl (by decide) zb trivial trivial rfl) zv zm
    · rw [List.drop_of_length_le (by dsimp only at h4; omega), offS, List.append_nil] at h3
      subst h3
      conv => whnf
      repeat' (first | ((first | refine zs1 ?_ | refine zs2 ?_ | refine zs3 ?_ | refine zs4 ?_ | refine zs5 ?_ | refine zs6 [] ?_); conv => whnf) | ((first | apply zi1 | apply zi2 | apply zi3 | apply zi4 | apply zi5) <;> intro _ <;> conv => whnf))
      refine VOut.data 1 [(0, O.flatMap Vm.encI)] [] rfl zf (by exact FmAll.nil) zv
end Go.Proofs.Ytoeendggmalcpaa.St

open Go.Vm
open Clip (Pn Sg Nt Bd Rt Sp Co Pl okP okD crs okP_iff okD_iff sgE chkG chk NtOk SgOk pAt pAt_ok pAt_get offB offS offL chk_ok)
namespace Go.Proofs.Ytoeendggmalcpaa.St
set_option maxRecDepth 20000
set_option maxHeartbeats 4000000
theorem vc_Off_ok (N : Nt) (h : Hp) (o : NtOk N) : VC Try.prog 107 [vN N] h (.tuple [ints (offL N), I 0]) h := by
  have hn := o.n
  have hm := o.m
  have c := fun h => vc_check N h (by omega) (by omega)
  rw [chk_ok.2 o] at c
  have c2 := fun h => vc_off N 0 h o
  generalize offL N = O at c2
  refine VC.body Try.func107 rfl Try.ntmps107 Try.call107 (h.grows_refl) rfl ?_; conv => whnf
  repeat' (first | ((first | refine zs1 ?_ | refine zs2 ?_ | refine zs3 ?_ | refine zs4 ?_ | refine zs5 ?_ | refine zs6 [] ?_); conv => whnf) | ((first | apply zi1 | apply zi2 | apply zi3 | apply zi4 | apply zi5) <;> intro _ <;> conv => whnf) | (refine VCall.intro (c _) ?_; conv => whnf))
  · refine VCall.intro (VC.give (args' := [.fp (encDk N 0)]) (loc' := [.flat true (encN N), .dead]) [(1, encDk N 0)] [] (OutOk.lift _) zb zf (by exact FmAll.nil) rfl zv (c2 _)) ?_
    conv => whnf
    repeat (first | ((first | refine zs1 ?_ | refine zs2 ?_ | refine zs3 ?_ | refine zs4 ?_ | refine zs5 ?_ | refine zs6 [] ?_); conv => whnf))
    exact VOut.same rfl
end Go.Proofs.Ytoeendggmalcpaa.St

open Go.Vm
namespace Clip
/-! ### A cut leaves one corner more at most -/
def wB (c d : Bool) : Nat := (if c then 0 else 1) + (if c = d then 0 else 1)
def tB (f : Bool) : List Bool → Nat
  | [] => 0
  | [c] => wB c f
  | c :: d :: l => wB c d + tB f (d :: l)
def eB (c d : Bool) : Nat := if c = d then 0 else 1
theorem tB_bd (f : Bool) : ∀ (l : List Bool) (c : Bool), (chg (c :: l) = 0 → tB f (c :: l) ≤ (if c then 0 else l.length + 1) + eB c f) ∧ (chg (c :: l) = 1 → tB f (c :: l) ≤ l.length + 1 + eB (!c) f) ∧ (chg (c :: l) = 2 → tB f (c :: l) ≤ l.length + 2 + eB c f)
  | [], c => by
    refine ⟨fun _ => ?_, fun h => ?_, fun h => ?_⟩
    · simp only [tB, wB, eB, List.length_nil]; cases c <;> simp
    · simp [chg] at h
    · simp [chg] at h
  | d :: l, c => by
    obtain ⟨i1, i2, i3⟩ := tB_bd f l d
    by_cases hcd : c = d
    · subst hcd
      have e : chg (c :: c :: l) = chg (c :: l) := by simp [chg]
      have e2 : tB f (c :: c :: l) ≤ (if c then 0 else 1) + tB f (c :: l) := by rw [tB, wB]; simp
      rw [e]
      refine ⟨fun h => ?_, fun h => ?_, fun h => ?_⟩
      · have := i1 h; rw [List.length_cons]; cases c <;> simp at * <;> omega
      · have := i2 h; rw [List.length_cons]; cases c <;> simp at * <;> omega
      · have := i3 h; rw [List.length_cons]; cases c <;> simp at * <;> omega
    · have hd : d = !c := by cases c <;> cases d <;> simp at *
      subst hd
      have e : chg (c :: (!c) :: l) = 1 + chg ((!c) :: l) := by rw [chg, if_neg hcd]
      have e2 : tB f (c :: (!c) :: l) = (if c then 0 else 1) + 1 + tB f ((!c) :: l) := by rw [tB, wB, if_neg hcd]
      rw [e, e2]
      refine ⟨fun h => by omega, fun h => ?_, fun h => ?_⟩
      · have := i1 (by omega); rw [List.length_cons]; cases c <;> simp at * <;> omega
      · have := i2 (by omega); rw [List.length_cons]; cases c <;> simp at * <;> omega
theorem tB_self {c : Bool} {l : List Bool} (h : chg (c :: l) ≤ 2) : tB c (c :: l) ≤ l.length + 2 := by
  obtain ⟨h1, h2, h3⟩ := tB_bd c l c
  have e1 : eB c c = 0 := by simp [eB]
  have e2 : eB (!c) c = 1 := by cases c <;> rfl
  rw [e1] at h1 h3
  rw [e2] at h2
  rcases Nat.lt_or_ge (chg (c :: l)) 1 with h | h
  · have := h1 (by omega); split at this <;> omega
  · rcases Nat.lt_or_ge (chg (c :: l)) 2 with h' | h'
    · have := h2 (by omega); omega
    · have := h3 (by omega); omega
def outB (b : Bd) (c : Co) : Bool := decide (0 < beyond b c.s)
theorem stepI_w (b : Bd) (c d : Co) : (stepI b c d).length ≤ wB (outB b c) (outB b d) := by
  unfold stepI wB outB
  split
  · rename_i h; rw [decide_eq_false (by omega), decide_eq_false (by omega)]; simp
  · split
    · rename_i h1 h; rw [decide_eq_false (by omega)]; simp
    · split
      · rename_i h1 h2 h; rw [decide_eq_false (by omega), decide_eq_true (by omega)]; simp
      · split
        · rename_i h1 h2 h3 h; rw [decide_eq_true (by omega), decide_eq_false (by omega)]; simp
        · simp
theorem goI_len (b : Bd) (f : Co) : ∀ l : List Co, (goI b f l).length ≤ tB (outB b f) (l.map (outB b))
  | [] => Nat.le_refl _
  | [c] => stepI_w b c f
  | c :: d :: l => by
    rw [goI, List.length_append]
    have h1 := stepI_w b c d
    have h2 := goI_len b f (d :: l)
    show _ ≤ wB (outB b c) (outB b d) + tB (outB b f) ((d :: l).map (outB b))
    omega
theorem Inv.len {l : List Co} {b : Bd} (h : Inv l) : (cutI b l).length ≤ l.length + 1 := by
  rcases h.poly with rfl | ⟨ks, f, m, rfl, P⟩
  · simp [cutI]
  · have hu := P.uni b.af
    have e : ((f.cr :: m.map Co.cr).map Cr.p).map (pos b.af) = (f :: m).map (outB b) := by
      have : ∀ c ∈ f :: m, pos b.af c.cr.p = outB b c := by
        intro c hc
        have := (beyond_sign (b := b) (h.sz c hc).s.ok).1
        unfold pos outB
        exact decide_eq_decide.2 this.symm
      rw [show f.cr :: m.map Co.cr = (f :: m).map Co.cr from rfl, List.map_map, List.map_map]
      exact List.map_congr_left fun c hc => this c hc
    rw [e] at hu
    have h1 := goI_len b f (f :: m)
    have h2 := tB_self (c := outB b f) (l := m.map (outB b)) hu
    rw [List.length_map] at h2
    show (goI b f (f :: m)).length ≤ _
    rw [List.map_cons] at h1
    rw [List.length_cons]
    omega
end Clip

open Go.Vm
open Clip (Pn Sg Nt Bd Rt Sp Co Pl okP okD red beyond meetI meetS BdSz SpSz CoSz)
namespace Go.Proofs.Ytoeendggmalcpaa.St
set_option maxRecDepth 20000
set_option maxHeartbeats 4000000
theorem VOut.own1 {h : Hp} {loc : List Blk} {esz n : Nat} {ds : List D} (j L : Nat) (hL : Nat.ble loc.length L = true) (hj : loc[j]? = some (.flat true ds)) : VOut h ⟨h.lift, loc⟩ (.gl (.loc j) esz n) (.gl h.fresh esz n) (h.push (.flat true ds)) := by
  refine VOut.upd [] [.flat true ds] [j] L hL (by intro p hp; cases hp) (by simp) rfl ?_ ?_ rfl
  · intro k b hk
    cases k with
    | zero => rw [List.getElem?_cons_zero, Option.some.injEq] at hk; subst hk; exact ⟨j, rfl, hj⟩
    | succ k => simp at hk
  · intro σ x hx
    have : (V.gl h.fresh esz n).ren (backR h.loc.length [j] L) = .gl (.loc j) esz n := by simp [V.ren, backR, Hp.fresh]
    rw [this]; exact hx
end Go.Proofs.Ytoeendggmalcpaa.St

open Go.Vm
open Clip (Pn Sg Nt Bd Rt Sp Co Pl crs meetI BdSz posD)
namespace Go.Proofs.Ytoeendggmalcpaa.St
set_option maxRecDepth 20000
set_option maxHeartbeats 4000000
structure Hold (R : Prop) : Prop where
  out : R
theorem suffices_ {R G : Prop} (main : Hold R → G) (rest : R) : G := main ⟨rest⟩
end Go.Proofs.Ytoeendggmalcpaa.St

open Go.Vm
open Clip (Pn Sg Nt Bd Rt Sp Co Pl NtOk SgOk chk chk_ok BdSz SpSz)
namespace Go.Proofs.Ytoeendggmalcpaa.St
set_option maxRecDepth 20000
set_option maxHeartbeats 4000000
theorem vc_point (x y : Int) (h : Hp) : VC Try.prog 103 [I x, I y] h (vPn ⟨x, y⟩) h := by
  refine VC.body Try.func103 rfl Try.ntmps103 Try.call103 (h.grows_refl) rfl ?_; conv => whnf
  repeat' (first | ((first | refine zs1 ?_ | refine zs2 ?_ | refine zs3 ?_ | refine zs4 ?_ | refine zs5 ?_ | refine zs6 [] ?_); conv => whnf) | ((first | apply zi1 | apply zi2 | apply zi3 | apply zi4 | apply zi5) <;> intro _ <;> conv => whnf))
  exact VOut.same rfl
theorem VOut.ownN {h : Hp} {loc : List Blk} {n m : Nat} {ds es : List D} (j k L : Nat) (hL : Nat.ble loc.length L = true) (hjk : j < k) (hj : loc[j]? = some (.flat true ds)) (hk : loc[k]? = some (.flat true es)) : VOut h ⟨h.lift, loc⟩ (.agg [.gl (.loc j) 2 n, .gl (.loc k) 6 m]) (.agg [.gl (.loc h.loc.length) 2 n, .gl (.loc (h.loc.length + 1)) 6 m]) (h.pushes [.flat true ds, .flat true es]) := by
  refine VOut.upd [] [.flat true ds, .flat true es] [j, k] L hL (by intro p hp; cases hp) (by simp; omega) rfl ?_ ?_ rfl
  · intro i b hi
    cases i with
    | zero => rw [List.getElem?_cons_zero, Option.some.injEq] at hi; subst hi; exact ⟨j, rfl, hj⟩
    | succ i =>
      cases i with
      | zero => rw [List.getElem?_cons_succ, List.getElem?_cons_zero, Option.some.injEq] at hi; subst hi; exact ⟨k, rfl, hk⟩
      | succ i => simp at hi
  · intro σ x hx
    have : (V.agg [.gl (.loc h.loc.length) 2 n, .gl (.loc (h.loc.length + 1)) 6 m]).ren (backR h.loc.length [j, k] L) = .agg [.gl (.loc j) 2 n, .gl (.loc k) 6 m] := by simp [V.ren, V.rens, backR]
    rw [this]; exact hx
end Go.Proofs.Ytoeendggmalcpaa.St

open Go.Vm
namespace Go.Proofs.Ytoeendggmalcpaa.St
set_option maxRecDepth 20000
set_option maxHeartbeats 4000000

abbrev DU (n : Int) : D := .s (.int .u32 n)
def encU (n : Int) : List D := [.s (.int .u8 n)]
theorem encU_len (n : Int) : (encU n).length = 1 := rfl
def bytes (l : List Int) : V := .fs 1 l.length (l.flatMap encU)
def deckD (bs : List Int) (n s : Int) : List D := [.sl 1 bs.length (bs.flatMap encU), DI n, DU s]
theorem VOut.setS {h : Hp} {loc : List Blk} {i : Vm.Id} {b0 : Blk} {l : List D} {rw : Bool} {x : S} {L : Nat} (hL : Nat.ble loc.length L = true) (hb : h.get i = some b0) : VOut h ⟨outW h.lift i (.flat rw l), loc⟩ (.s x) (.s x) (h.set i (.flat rw l)) := by
  have hd : ∀ p ∈ [(i, Blk.flat rw l)], h.get p.1 ≠ none := by
    intro p hp
    simp only [List.mem_cons, List.not_mem_nil, or_false] at hp
    subst hp; simp only; rw [hb]; simp
  have := VOut.upd (loc := loc) (r1 := .s x) (r := .s x) [(i, .flat rw l)] [] [] L hL hd (by simp) rfl (by intro k b hk; simp at hk) (fun σ x hx => hx) (outer := outW h.lift i (.flat rw l)) rfl
  have he : (h.sets [(i, Blk.flat rw l)]).pushes [] = h.set i (.flat rw l) := by simp [Hp.sets, Hp.pushes]
  rw [he] at this
  exact this
theorem set_same {h : Hp} {i : Vm.Id} {b : Blk} (hb : h.get i = some b) : h.set i b = h := by
  cases i with
  | out i =>
    have hb : h.outer i = some b := hb
    obtain ⟨o, l⟩ := h
    simp only [Hp.set]
    congr 1
    funext j
    split
    · rename_i e; rw [e]; exact hb.symm
    · rfl
  | loc k =>
    have hb : h.loc[k]? = some b := hb
    obtain ⟨o, l⟩ := h
    simp only [Hp.set]
    congr 1
    obtain ⟨h1, h2⟩ := List.getElem?_eq_some_iff.1 hb
    rw [← h2]; exact List.set_getElem_self h1
theorem VOut.set2 {h : Hp} {loc : List Blk} {i : Vm.Id} {b0 b1 : Blk} {l : List D} {rw : Bool} {x : S} (hb : h.get i = some b0) : VOut h ⟨outW (outW h.lift i b1) i (.flat rw l), loc⟩ (.s x) (.s x) (h.set i (.flat rw l)) := by
  rw [outW_same]
  exact VOut.setS (L := loc.length) (by simp) hb
theorem vc_Draw0 (bs : List Int) (n s k : Int) (i : Vm.Id) (h : Hp) (hb : h.get i = some (.flat true (deckD bs n s))) (hk : k ≤ 1 ∨ bs = []) : VC Try.prog 44 [.ptr i 0, I k] h (I 0) (h.set i (.flat true (deckD bs n s))) := by
  rw [set_same hb]
  have hl : k ≤ 1 ∨ bs.length = 0 := by rcases hk with h1 | h1; exact .inl h1; exact .inr (by rw [h1]; rfl)
  refine VC.body Try.func44 rfl Try.ntmps44 Try.call44 (h.grows_refl) rfl ?_; conv => whnf
  repeat' (first | ((first | refine zs1 ?_ | refine zs2 ?_ | refine zs3 ?_ | refine zs4 ?_ | refine zs5 ?_); conv => whnf) | ((first | apply zi1 | apply zi2 | apply zi3 | apply zi4 | apply zi5) <;> intro _ <;> conv => whnf) | (refine VLd.flat rfl rfl (get_out hb _) rfl ?_; conv => whnf))
  · exact VOut.same rfl
  · exact VOut.same rfl
  · exfalso; omega
def dRd (bs : List Int) (N : Nat) : Int := IntKind.u32.wrap (IntKind.i64.wrap ((N : Int).tdiv (bs.length : Int)))
def dSt (bs : List Int) (N : Nat) (s c : Int) : Int := (IntKind.u32.wrap (IntKind.u32.wrap (IntKind.u32.wrap (s * 37) + IntKind.u32.wrap c) + IntKind.u32.wrap (101 * dRd bs N))).tmod 65521
def dR (bs : List Int) (N : Nat) (s k c : Int) : Int := if k ≤ 256 ∧ dRd bs N = 0 then (IntKind.i64.wrap (IntKind.u32.wrap c)).tmod k else (IntKind.i64.wrap (IntKind.u32.wrap (IntKind.u32.wrap (dSt bs N s c * 256) + IntKind.u32.wrap c))).tmod k
theorem u32_bd (n : Int) : 0 ≤ IntKind.u32.wrap n ∧ IntKind.u32.wrap n < 4294967296 := by
  unfold IntKind.wrap; simp [IntKind.bits, IntKind.signed]; omega
theorem tmod_bd {a k : Int} (ha : 0 ≤ a) (hk : 0 < k) : 0 ≤ a.tmod k ∧ a.tmod k < k := by
  rw [Int.tmod_eq_emod_of_nonneg ha]
  exact ⟨Int.emod_nonneg _ (by omega), Int.emod_lt_of_pos _ hk⟩
theorem dR_bd (bs : List Int) (N : Nat) (s c : Int) {k : Int} (hk : 0 < k) : 0 ≤ dR bs N s k c ∧ dR bs N s k c < k := by
  unfold dR
  split
  · have := u32_bd c
    rw [wrap_i64 (by omega)]
    exact tmod_bd this.1 hk
  · have := u32_bd (IntKind.u32.wrap (dSt bs N s c * 256) + IntKind.u32.wrap c)
    rw [wrap_i64 (by omega)]
    exact tmod_bd this.1 hk
theorem vc_Draw1 (bs : List Int) (N : Nat) (s k c : Int) (i : Vm.Id) (h : Hp) (hb : h.get i = some (.flat true (deckD bs N s))) (hk : 1 < k) (hc : bs[N % bs.length]? = some c) (hN : N ≤ 4000000000) :
    VC Try.prog 44 [.ptr i 0, I k] h (I (dR bs N s k c)) (h.set i (.flat true (deckD bs ((N : Int) + 1) (dSt bs N s c)))) := by
  have hlen : 0 < bs.length := by
    have := (List.getElem?_eq_some_iff.1 hc).1
    omega
  have hneB : ((bs.length : Int) != 0) = true := by rw [bne_iff_ne]; omega
  obtain ⟨R, hR⟩ : ∃ R, R = dR bs N s k c := ⟨_, rfl⟩
  rw [← hR]
  unfold dR at hR
  refine VC.body Try.func44 rfl Try.ntmps44 Try.call44 (h.grows_set _ _) rfl ?_
  conv => whnf
  repeat' (first | ((first | refine zs1 ?_ | refine zs2 ?_ | refine zs3 ?_ | refine zs4 ?_ | refine zs5 ?_ | refine zs6 [] ?_); conv => whnf) | ((first | apply zi1 | apply zi2 | apply zi3 | apply zi4 | apply zi5) <;> intro _ <;> conv => whnf) | (refine VLd.flat rfl rfl (get_out hb _) rfl ?_; conv => whnf) | (refine VAny.ix encU_len (N % bs.length) (by rfl) rfl hc ?_; conv => whnf) | (refine VLd.flat rfl rfl (outW_get _ _ _ _) rfl ?_; conv => whnf) | (refine VMem.st1 rfl rfl rfl (get_out hb _) rfl ?_; conv => whnf) | (refine VMem.st1 rfl rfl rfl (outW_get _ _ _ _) rfl ?_; conv => whnf) | (refine VArith.wr ?_; conv => whnf) | (refine VNeed.intro hneB ?_; conv => whnf))
  · exfalso; omega
  · exfalso; omega
  · rename_i h1 h2
    have h2 : dRd bs N = 0 := h2
    rw [if_pos ⟨h1, h2⟩] at hR
    subst hR
    refine VOut.set2 hb
  · rename_i h1 h2
    have h2 : ¬ dRd bs N = 0 := h2
    rw [if_neg (fun h => h2 h.2)] at hR
    subst hR
    refine VOut.set2 hb
  · rename_i h1
    rw [if_neg (fun h => h1 h.1)] at hR
    subst hR
    refine VOut.set2 hb
def dNx (bs : List Int) (d : Nat × Int) (k : Int) : Int × (Nat × Int) :=
  if k ≤ 1 ∨ bs = [] then (0, d) else (dR bs d.1 d.2 k (bs.getD (d.1 % bs.length) 0), (d.1 + 1, dSt bs d.1 d.2 (bs.getD (d.1 % bs.length) 0)))
def deckB (bs : List Int) (d : Nat × Int) : Blk := .flat true (deckD bs d.1 d.2)
theorem dNx_bd (bs : List Int) (d : Nat × Int) (k : Int) : 0 ≤ (dNx bs d k).1 ∧ ((dNx bs d k).1 = 0 ∨ (dNx bs d k).1 < k) ∧ (dNx bs d k).2.1 ≤ d.1 + 1 := by
  unfold dNx
  split
  · exact ⟨Int.le_refl _, .inl rfl, by simp only; omega⟩
  · rename_i h
    obtain ⟨q1, q2⟩ := dR_bd bs d.1 d.2 (bs.getD (d.1 % bs.length) 0) (k := k) (by omega)
    exact ⟨q1, .inr q2, Nat.le_refl _⟩
theorem vc_draw (bs : List Int) (d : Nat × Int) (k : Int) (i : Vm.Id) (h : Hp) (hN : d.1 ≤ 4000000000) (hb : h.get i = some (deckB bs d)) : VC Try.prog 44 [.ptr i 0, I k] h (I (dNx bs d k).1) (h.set i (deckB bs (dNx bs d k).2)) := by
  unfold dNx deckB at *
  split
  · rename_i hk; exact vc_Draw0 bs d.1 d.2 k i h hb hk
  · rename_i hk
    have hlen := List.length_pos_iff.2 (fun h => hk (.inr h))
    have hc : bs[d.1 % bs.length]? = some (bs.getD (d.1 % bs.length) 0) := by simp [List.getElem?_eq_getElem (Nat.mod_lt d.1 hlen)]
    exact vc_Draw1 bs d.1 d.2 k _ i h hb (by omega) hc hN
theorem vc_between (bs : List Int) (d : Nat × Int) (a b : Int) (i : Vm.Id) (h : Hp) (hN : d.1 ≤ 4000000000) (ha : -1000000 ≤ a ∧ a ≤ 1000000) (hb : -1000000 ≤ b ∧ b ≤ 1000000) (hd : h.get i = some (deckB bs d)) : VC Try.prog 57 [.ptr i 0, I a, I b] h (I (a + (dNx bs d (b - a + 1)).1)) (h.set i (deckB bs (dNx bs d (b - a + 1)).2)) := by
  have hbd := dNx_bd bs d (b - a + 1)
  have hD := fun i h hh => vc_draw bs d (b - a + 1) i h hN hh
  generalize dNx bs d (b - a + 1) = x at hbd hD
  refine VC.body Try.func57 rfl Try.ntmps57 Try.call57 (h.grows_set _ _) rfl ?_
  conv => whnf
  repeat' (first | ((first | refine zs1 ?_ | refine zs2 ?_ | refine zs3 ?_ | refine zs4 ?_ | refine zs5 ?_ | refine zs6 [] ?_); conv => whnf) | ((first | apply zi1 | apply zi2 | apply zi3 | apply zi4 | apply zi5) <;> intro _ <;> conv => whnf) | (refine VCall.intro (hD (.out i) _ (get_out hd _)) ?_; conv => whnf))
  exact VOut.setS (L := 0) rfl hd
theorem vc_coin (bs : List Int) (d : Nat × Int) (k : Int) (i : Vm.Id) (h : Hp) (hN : d.1 ≤ 4000000000) (hd : h.get i = some (deckB bs d)) : VC Try.prog 45 [.ptr i 0, I k] h (B ((dNx bs d k).1 == 0)) (h.set i (deckB bs (dNx bs d k).2)) := by
  have hD := fun i h hh => vc_draw bs d k i h hN hh
  generalize dNx bs d k = x at hD
  refine VC.body Try.func45 rfl Try.ntmps45 Try.call45 (h.grows_set _ _) rfl ?_
  conv => whnf
  repeat' (first | ((first | refine zs1 ?_ | refine zs2 ?_ | refine zs3 ?_ | refine zs4 ?_ | refine zs5 ?_ | refine zs6 [] ?_); conv => whnf) | ((first | apply zi1 | apply zi2 | apply zi3 | apply zi4 | apply zi5) <;> intro _ <;> conv => whnf) | (refine VCall.intro (hD (.out i) _ (get_out hd _)) ?_; conv => whnf))
  exact VOut.setS (L := 0) rfl hd
theorem VOut.ownP {h : Hp} {loc : List Blk} {ds : List D} (j L : Nat) (hL : Nat.ble loc.length L = true) (hj : loc[j]? = some (.flat true ds)) : VOut h ⟨h.lift, loc⟩ (.ptr (.loc j) 0) (.ptr h.fresh 0) (h.push (.flat true ds)) := by
  refine VOut.upd [] [.flat true ds] [j] L hL (by intro p hp; cases hp) (by simp) rfl ?_ ?_ rfl
  · intro k b hk
    cases k with
    | zero => rw [List.getElem?_cons_zero, Option.some.injEq] at hk; subst hk; exact ⟨j, rfl, hj⟩
    | succ k => simp at hk
  · intro σ x hx
    have : (V.ptr h.fresh 0).ren (backR h.loc.length [j] L) = .ptr (.loc j) 0 := by simp [V.ren, backR, Hp.fresh]
    rw [this]; exact hx
theorem vc_Of (bs : List Int) (h : Hp) : VC Try.prog 14 [bytes bs] h (.ptr h.fresh 0) (h.push (deckB bs (0, 9))) := by
  refine VC.body Try.func14 rfl Try.ntmps14 Try.call14 (h.grows_push _) rfl ?_
  conv => whnf
  repeat (first | ((first | refine zs1 ?_ | refine zs2 ?_ | refine zs3 ?_ | refine zs4 ?_ | refine zs5 ?_ | refine zs6 [] ?_); conv => whnf))
  exact VOut.ownP 0 1 rfl rfl
theorem VOut.setF {h : Hp} {loc : List Blk} {i : Vm.Id} {b0 : Blk} {l : List D} {rw : Bool} {r : V} {L : Nat} (hL : Nat.ble loc.length L = true) (hb : h.get i = some b0) (hr : ∀ ρ, r.ren ρ = r) : VOut h ⟨outW h.lift i (.flat rw l), loc⟩ r r (h.set i (.flat rw l)) := by
  have hd : ∀ p ∈ [(i, Blk.flat rw l)], h.get p.1 ≠ none := by
    intro p hp
    simp only [List.mem_cons, List.not_mem_nil, or_false] at hp
    subst hp; simp only; rw [hb]; simp
  have := VOut.upd (loc := loc) (r1 := r) (r := r) [(i, .flat rw l)] [] [] L hL hd (by simp) rfl (by intro k b hk; simp at hk) (fun σ x hx => by rw [hr]; exact hx) (outer := outW h.lift i (.flat rw l)) rfl
  have he : (h.sets [(i, Blk.flat rw l)]).pushes [] = h.set i (.flat rw l) := by simp [Hp.sets, Hp.pushes]
  rw [he] at this
  exact this
end Go.Proofs.Ytoeendggmalcpaa.St

namespace Sen
open Psg
theorem offS_le (ps : List Clip.Pn) : ∀ (ss : List Clip.Sg) (k : Int), (Clip.offS ps k ss).length ≤ ss.length
  | [], _ => Nat.le_refl _
  | s :: r, k => by
    have := offS_le ps r (k + 1)
    rw [Clip.offS]
    split
    · simp only [List.length_cons]; omega
    · simp only [List.length_cons]; omega
def sW (s : Clip.Sg) : Wy := ⟨s.f, s.t, 1, 1, 0, 0, 0, 1000⟩
def tlK (O : List Int) (ss : List Clip.Sg) : Nat → List Wy
  | 0 => []
  | k + 1 => match ss[k]? with
    | some s => if (k : Int) ∈ O then tlK O ss k else tlK O ss k ++ [sW s]
    | none => tlK O ss k
theorem tlK_len (O : List Int) (ss : List Clip.Sg) : ∀ k, (tlK O ss k).length ≤ k
  | 0 => Nat.le_refl _
  | k + 1 => by
    have := tlK_len O ss k
    rw [tlK]
    split
    · split
      · omega
      · rw [List.length_append, List.length_singleton]; omega
    · omega
theorem tlK_mem {O : List Int} {ss : List Clip.Sg} : ∀ {k : Nat} {w : Wy}, w ∈ tlK O ss k → ∃ s ∈ ss, w = sW s
  | 0, w, h => by cases h
  | k + 1, w, h => by
    rw [tlK] at h
    split at h
    · rename_i s hs
      split at h
      · exact tlK_mem h
      · rcases List.mem_append.1 h with h | h
        · exact tlK_mem h
        · exact ⟨s, List.mem_of_getElem? hs, List.mem_singleton.1 h⟩
    · exact tlK_mem h
theorem tlK_all {ss : List Clip.Sg} : ∀ {k : Nat}, k ≤ ss.length → tlK [] ss k = (ss.take k).map sW
  | 0, _ => by simp [tlK]
  | k + 1, h => by
    have hs : ss[k]? = some (ss[k]'(by omega)) := List.getElem?_eq_getElem _
    rw [tlK, hs]
    dsimp only
    rw [if_neg (by simp), tlK_all (by omega), List.take_add_one, hs, List.map_append]
    rfl
theorem tlK_full (ss : List Clip.Sg) : tlK [] ss ss.length = ss.map sW := by rw [tlK_all (Nat.le_refl _), List.take_length]
theorem tlK_sub {O : List Int} {ss : List Clip.Sg} {w : Wy} (h : w ∈ tlK O ss ss.length) : w ∈ tlK [] ss ss.length := by
  obtain ⟨s, hs, rfl⟩ := tlK_mem h
  rw [tlK_full]
  exact List.mem_map_of_mem hs
theorem pp0 : Pp 0 := ⟨by decide, by decide⟩
theorem sW_ok {n : Nat} {s : Clip.Sg} (h : Clip.SgOk n s) : WOk n (sW s) :=
  ⟨h.f, h.t, by show (0 : Int) ≤ 1 ∧ (1 : Int) ≤ 1000; decide, by show (0 : Int) ≤ 1 ∧ (1 : Int) ≤ 1000; decide, pp0, pp0, by show (0 : Int) ≤ 0 ∧ (0 : Int) ≤ 1000; decide, by show (1000 : Int) ≤ 1000; decide⟩
theorem less_day {n : Nat} {ws vs : List Wy} {x : Hd} {D E : Tb} (hw : ∀ w ∈ ws, WOk n w) (hx : HOk n x) (hs : ∀ w ∈ ws, w ∈ vs) (hD : Lst n ws x D) (hE : Lst n vs x E) {p : Nat} (hp : p < n) (h : tell (dayOf D p) ≠ -1) : tell (dayOf E p) ≠ -1 ∧ tell (dayOf E p) ≤ tell (dayOf D p) := by
  have hH : Hol n ws x E := ⟨hE.hol.own, fun p s h1 h2 w hw y hy => hE.hol.clo p s h1 h2 w (hs w hw) y hy⟩
  have hle := fun (s : Int) (hs : Pp s) => hD.le hw hx hH (fun p s h1 h2 => (hE.cap p s h1 h2).2) (p := (p : Int)) (s := s) (by omega) hs
  obtain ⟨t, ht, e⟩ := dayOf_ex D p
  have h1 := hle t ht
  have h2 := dayOf_le (D := E) (p := (p : Int)) ht
  have h3 := dayOf_cap hE (p := (p : Int)) (by omega)
  unfold tell at h ⊢
  split at h
  · rename_i h4
    rw [if_pos h4, if_pos (by omega)]
    omega
  · exact absurd rfl h
end Sen

open Go.Vm
open Clip (Pn Sg Nt crs okD okD_iff)
namespace Go.Vm
end Go.Vm
namespace Go.Proofs.Ytoeendggmalcpaa.St
set_option maxRecDepth 20000
set_option maxHeartbeats 4000000

/-! ### Directions and sights that are dealt -/
abbrev DS := Nat × Int
theorem veq60 (a b c d : Int) : vaggeq Try.prog .eql 104 (.agg [I a, I b]) (.agg [I c, I d]) = some (B (decide (a = c ∧ b = d))) := by
  have : ((a == c) && ((b == d) && true)) = decide (a = c ∧ b = d) := by
    rw [Bool.eq_iff_iff, decide_eq_true_eq]; simp
  rw [← this]
  unfold vaggeq
  rw [show eqTop Try.prog 104 = some (Sh.cons 0 1 false Sh.int (Sh.cons 1 1 false Sh.int Sh.nil)) by kernel_rfl]
  rfl
def tnX (bs : List Int) (d : DS) (m : Int) : Int × DS := dNx bs d (m - (0 - m) + 1)
def tnY (bs : List Int) (d : DS) (m : Int) : Int × DS := dNx bs (tnX bs d m).2 (m - (0 - m) + 1)
def tnV (bs : List Int) (d : DS) (m : Int) : Pn × DS := (if (0 - m) + (tnX bs d m).1 = 0 ∧ (0 - m) + (tnY bs d m).1 = 0 then ⟨1, (0 - m) + (tnY bs d m).1⟩ else ⟨(0 - m) + (tnX bs d m).1, (0 - m) + (tnY bs d m).1⟩, (tnY bs d m).2)
structure TnOk (m : Int) (d : DS) (u : Pn × DS) : Prop where
  x : -m ≤ u.1.x ∧ u.1.x ≤ m
  y : -m ≤ u.1.y ∧ u.1.y ≤ m
  nz : ¬ (u.1.x = 0 ∧ u.1.y = 0)
  n : u.2.1 ≤ d.1 + 2
theorem tn_ok (bs : List Int) (d : DS) {m : Int} (hm : 1 ≤ m ∧ m ≤ 50) : TnOk m d (tnV bs d m) := by
  obtain ⟨a1, a2, a3⟩ := dNx_bd bs d (m - (0 - m) + 1)
  obtain ⟨b1, b2, b3⟩ := dNx_bd bs (tnX bs d m).2 (m - (0 - m) + 1)
  have e1 : dNx bs d (m - (0 - m) + 1) = tnX bs d m := rfl
  have e2 : dNx bs (tnX bs d m).2 (m - (0 - m) + 1) = tnY bs d m := rfl
  rw [e1] at a1 a2 a3
  rw [e2] at b1 b2 b3
  unfold tnV
  generalize tnY bs d m = y at *
  generalize tnX bs d m = x at *
  refine ⟨?_, ?_, ?_, by dsimp only; omega⟩
  · dsimp only; split <;> dsimp only <;> omega
  · dsimp only; split <;> dsimp only <;> omega
  · dsimp only; split <;> dsimp only <;> omega
theorem vc_Turn (bs : List Int) (d : DS) (m : Int) (i : Vm.Id) (h : Hp) (hN : d.1 ≤ 3000000000) (hm : 1 ≤ m ∧ m ≤ 50) (hd : h.get i = some (deckB bs d)) : VC Try.prog 129 [.ptr i 0, I m] h (vPn (tnV bs d m).1) (h.set i (deckB bs (tnV bs d m).2)) := by
  have c1 := fun (h2 : Hp) hh => vc_between bs d (0 - m) m (.out i) h2 (by omega) (by omega) (by omega) hh
  have a := dNx_bd bs d (m - (0 - m) + 1)
  have e1 : dNx bs d (m - (0 - m) + 1) = tnX bs d m := rfl
  rw [e1] at c1 a
  have c2 := fun (h2 : Hp) hh => vc_between bs (tnX bs d m).2 (0 - m) m (.out i) h2 (by omega) (by omega) (by omega) hh
  have b := dNx_bd bs (tnX bs d m).2 (m - (0 - m) + 1)
  have e2 : dNx bs (tnX bs d m).2 (m - (0 - m) + 1) = tnY bs d m := rfl
  rw [e2] at c2 b
  obtain ⟨T, hT⟩ : ∃ T, T = (tnV bs d m).1 := ⟨_, rfl⟩
  have eD : (tnV bs d m).2 = (tnY bs d m).2 := rfl
  rw [← hT, eD]
  unfold tnV at hT
  dsimp only at hT
  generalize tnY bs d m = y at *
  generalize tnX bs d m = x at *
  have p1 := fun h => vc_point (0 - m + x.1) (0 - m + y.1) h
  refine VC.body Try.func129 rfl Try.ntmps129 Try.call129 (h.grows_set _ _) rfl ?_; conv => whnf
  repeat' (first | ((first | refine zs1 ?_ | refine zs2 ?_ | refine zs3 ?_ | refine zs4 ?_ | refine zs5 ?_ | refine zs6 [] ?_); conv => whnf) | ((first | apply zi1 | apply zi2 | apply zi3 | apply zi4 | apply zi5) <;> intro _ <;> conv => whnf) | (refine VCall.intro (c1 _ (get_out hd _)) ?_; conv => whnf) | (refine VCall.intro (c2 _ (outW_get _ _ _ _)) ?_; conv => whnf) | (refine VCall.intro (p1 _) ?_; conv => whnf) | (refine VAgg.intro (veq60 _ _ _ _) ?_; conv => whnf))
  · rename_i hz
    rw [if_pos hz] at hT
    subst hT
    refine (show VOut h ⟨outW (outW h.lift i (deckB bs x.2)) i (deckB bs y.2), _⟩ _ _ _ from ?_)
    rw [outW_same]
    exact VOut.setF (L := 3) rfl hd fun _ => rfl
  · rename_i hz
    rw [if_neg hz] at hT
    subst hT
    refine (show VOut h ⟨outW (outW h.lift i (deckB bs x.2)) i (deckB bs y.2), _⟩ _ _ _ from ?_)
    rw [outW_same]
    exact VOut.setF (L := 3) rfl hd fun _ => rfl
def bkP (p : Pn) : Pn := ⟨0 - p.x, 0 - p.y⟩
theorem vc_back (p : Pn) (h : Hp) (hp : PnB p) : VC Try.prog 131 [vPn p] h (vPn (bkP p)) h := by
  have h1 := hp.1
  have h2 := hp.2
  have p1 := fun h => vc_point (0 - p.x) (0 - p.y) h
  refine VC.body Try.func131 rfl Try.ntmps131 Try.call131 (h.grows_refl) rfl ?_; conv => whnf
  repeat' (first | ((first | refine zs1 ?_ | refine zs2 ?_ | refine zs3 ?_ | refine zs4 ?_ | refine zs5 ?_ | refine zs6 [] ?_); conv => whnf) | ((first | apply zi1 | apply zi2 | apply zi3 | apply zi4 | apply zi5) <;> intro _ <;> conv => whnf) | (refine VCall.intro (p1 _) ?_; conv => whnf))
  exact VOut.same rfl
theorem vc_crossL (a b : Pn) (h : Hp) (ha : PnB a) (hb : PnB b) : VC Try.prog 130 [vPn a, vPn b] h (I (crs a b)) h := by
  have hc := crs_b ha hb
  refine VC.body Try.func130 rfl Try.ntmps130 Try.call130 (h.grows_refl) rfl ?_; conv => whnf
  repeat' (first | ((first | refine zs1 ?_ | refine zs2 ?_ | refine zs3 ?_ | refine zs4 ?_ | refine zs5 ?_ | refine zs6 [] ?_); conv => whnf) | ((first | apply zi1 | apply zi2 | apply zi3 | apply zi4 | apply zi5) <;> intro _ <;> conv => whnf))
  exact VOut.same rfl
end Go.Proofs.Ytoeendggmalcpaa.St


/- Part 6 of the proof that two base points leave no enclaves. No condition. -/
import Derived.Test.YtajnkenbhmkjaaaGreatBn5
set_option linter.unusedVariables false
set_option linter.unusedSimpArgs false
open Go.Vm
open Riv
namespace Go.Proofs.YtajnkenbhmkjaaaGreat
set_option maxRecDepth 20000
set_option maxHeartbeats 4000000

structure Bs where
  x : Int
  y : Int
  s : Int
structure Ie where
  x : Int
  y : Int
  o : Int
  f : Int
structure Cst where
  bs : List Bs
  ie : List Ie
def encBs (b : Bs) : List D := [DI b.x, DI b.y, DI b.s]
theorem encBs_len (b : Bs) : (encBs b).length = 3 := rfl
def bss (l : List Bs) : V := .fs 3 l.length (l.flatMap encBs)
def vBs (b : Bs) : V := .agg [I b.x, I b.y, I b.s]
def encIe (b : Ie) : List D := [DI b.x, DI b.y, DI b.o, DI b.f]
theorem encIe_len (b : Ie) : (encIe b).length = 4 := rfl
def ies (l : List Ie) : V := .fs 4 l.length (l.flatMap encIe)
def vIe (b : Ie) : V := .agg [I b.x, I b.y, I b.o, I b.f]
def encCt (c : Cst) : List D := [.sl 3 c.bs.length (c.bs.flatMap encBs), .sl 4 c.ie.length (c.ie.flatMap encIe)]
def vCt (c : Cst) : V := .agg [bss c.bs, ies c.ie]
def vPt (x y : Int) : V := .agg [I x, I y]
theorem vc_in (n a b : Int) (h : Hp) : VC Tryz.prog 38 [I n, I a, I b] h (B (decide (a ≤ n ∧ n ≤ b))) h := by
  refine VC.body Tryz.func38 rfl Tryz.ntmps38 Tryz.call38 (h.grows_refl) rfl ?_; conv => whnf
  repeat' (first | ((first | refine zs1 ?_ | refine zs2 ?_ | refine zs3 ?_ | refine zs4 ?_ | refine zs5 ?_ | refine zs6 [] ?_); conv => whnf) | ((first | apply zi1 | apply zi2 | apply zi3 | apply zi4 | apply zi5) <;> intro _ <;> conv => whnf))
  all_goals (refine VOut.same ?_; simp [V.ren]; try omega)
def knB (x y : Int) : Bool := decide ((-300 ≤ x ∧ x ≤ 300) ∧ (-300 ≤ y ∧ y ≤ 300))
theorem vc_known (x y : Int) (h : Hp) : VC Tryz.prog 25 [vPt x y] h (B (knB x y)) h := by
  have c := fun n a b h => vc_in n a b h
  unfold vPt
  by_cases hx : -300 ≤ x ∧ x ≤ 300
  · have e : knB x y = decide (-300 ≤ y ∧ y ≤ 300) := by unfold knB; rw [decide_eq_decide]; omega
    rw [e]
    have c1 := fun h => c x (-300) 300 h
    rw [decide_eq_true hx] at c1
    refine VC.body Tryz.func25 rfl Tryz.ntmps25 Tryz.call25 (h.grows_refl) rfl ?_; conv => whnf
    repeat' (first | ((first | refine zs1 ?_ | refine zs2 ?_ | refine zs3 ?_ | refine zs4 ?_ | refine zs5 ?_); conv => whnf) | ((first | apply zi1 | apply zi2 | apply zi3 | apply zi4 | apply zi5) <;> intro _ <;> first | (exfalso; omega) | contradiction | (conv => whnf)) | (refine VCall.intro (c1 _) ?_; conv => whnf) | (refine VCall.intro (c _ _ _ _) ?_; conv => whnf))
    all_goals exact VOut.same rfl
  · have e : knB x y = false := by unfold knB; rw [decide_eq_false]; omega
    rw [e]
    have c1 := fun h => c x (-300) 300 h
    rw [decide_eq_false hx] at c1
    refine VC.body Tryz.func25 rfl Tryz.ntmps25 Tryz.call25 (h.grows_refl) rfl ?_; conv => whnf
    repeat' (first | ((first | refine zs1 ?_ | refine zs2 ?_ | refine zs3 ?_ | refine zs4 ?_ | refine zs5 ?_); conv => whnf) | ((first | apply zi1 | apply zi2 | apply zi3 | apply zi4 | apply zi5) <;> intro _ <;> first | (exfalso; omega) | contradiction | (conv => whnf)) | (refine VCall.intro (c1 _) ?_; conv => whnf) | (refine VCall.intro (c _ _ _ _) ?_; conv => whnf))
    all_goals exact VOut.same rfl
theorem vc_ixDB (l : List Bs) (q : Bs → Bool) (g : FuncId) (caps : List D) (hl : l.length ≤ 4000000) (hso : ∀ (e : Bs) (h : Hp), e ∈ l → VC Tryz.prog g ([vBs e] ++ D.vs caps) h (B (q e)) h) (h : Hp) :
    VC Tryz.prog 86 [bss l, .func (.func g) [] (D.vs caps)] h (I (fidx q l 0)) h := by
  obtain ⟨E, hE⟩ : ∃ E, E = fidx q l 0 := ⟨_, rfl⟩
  rw [← hE]
  refine VC.body Tryz.func86 rfl Tryz.ntmps86 Tryz.call86 (h.grows_refl) rfl ?_; conv => whnf
  rw [rens_dvs]
  refine VCode.lp (fun k : Nat => [(0, bss l), (1, .func (.func g) [] (D.vs caps)), (7, I l.length), (8, I k)]) (fun _ => []) (fun k => k ≤ l.length ∧ E = fidx q (l.drop k) k) (fun k => l.length - k) 0 ⟨Nat.zero_le _, hE⟩ ?_ ?_
  · conv => whnf
    refine Retell.turn ⟨[], 0, [], []⟩ (TurnOk.mk' _ _ [] [] (OutOk.lift _) rfl (by decide) zb trivial trivial rfl) zw zm
  · rintro k ⟨h1, h2⟩
    conv => whnf
    refine VIte.dec (fun h3 => ?_) (fun h3 => ?_)
    · have ha : l[k]? = some l[k] := List.getElem?_eq_getElem (by omega)
      have hm := fun h => hso l[k] h (List.getElem_mem (by omega))
      generalize l[k] = a at ha hm
      rw [fidx_at ha] at h2
      conv => whnf
      repeat' (first | ((first | refine zs1 ?_ | refine zs2 ?_ | refine zs3 ?_ | refine zs4 ?_ | refine zs5 ?_ | refine zs6 [] ?_); conv => whnf) | ((first | apply zi1 | apply zi2 | apply zi3 | apply zi4 | apply zi5) <;> intro _ <;> conv => whnf) | (refine VAny.ix encBs_len k (by omega) rfl ha ?_; conv => whnf))
      refine VCall.intro (hm _) ?_
      conv => whnf
      cases hq : q a
      · rw [hq] at h2
        conv => whnf
        repeat (first | ((first | refine zs1 ?_ | refine zs2 ?_ | refine zs3 ?_ | refine zs4 ?_ | refine zs5 ?_ | refine zs6 [] ?_); conv => whnf))
        refine LEnd.intro (k + 1) ⟨by omega, h2⟩ (by omega) ?_
        conv => whnf
        refine Retell.turn ⟨[], 0, [], []⟩ (TurnOk.mk' _ _ [] [] (OutOk.lift _) rfl (by decide) zb trivial trivial rfl) zw zm
      · rw [hq] at h2
        rw [h2]
        conv => whnf
        repeat (first | ((first | refine zs1 ?_ | refine zs2 ?_ | refine zs3 ?_ | refine zs4 ?_ | refine zs5 ?_ | refine zs6 [] ?_); conv => whnf))
        exact VOut.same rfl
    · rw [List.drop_of_length_le (by omega), fidx] at h2
      rw [h2]
      conv => whnf
      repeat (first | ((first | refine zs1 ?_ | refine zs2 ?_ | refine zs3 ?_ | refine zs4 ?_ | refine zs5 ?_ | refine zs6 [] ?_); conv => whnf))
      exact VOut.same rfl
theorem vc_ixDE (l : List Ie) (q : Ie → Bool) (g : FuncId) (caps : List D) (hl : l.length ≤ 4000000) (hso : ∀ (e : Ie) (h : Hp), e ∈ l → VC Tryz.prog g ([vIe e] ++ D.vs caps) h (B (q e)) h) (h : Hp) :
    VC Tryz.prog 87 [ies l, .func (.func g) [] (D.vs caps)] h (I (fidx q l 0)) h := by
  obtain ⟨E, hE⟩ : ∃ E, E = fidx q l 0 := ⟨_, rfl⟩
  rw [← hE]
  refine VC.body Tryz.func87 rfl Tryz.ntmps87 Tryz.call87 (h.grows_refl) rfl ?_; conv => whnf
  rw [rens_dvs]
  refine VCode.lp (fun k : Nat => [(0, ies l), (1, .func (.func g) [] (D.vs caps)), (7, I l.length), (8, I k)]) (fun _ => []) (fun k => k ≤ l.length ∧ E = fidx q (l.drop k) k) (fun k => l.length - k) 0 ⟨Nat.zero_le _, hE⟩ ?_ ?_
  · conv => whnf
    refine Retell.turn ⟨[], 0, [], []⟩ (TurnOk.mk' _ _ [] [] (OutOk.lift _) rfl (by decide) zb trivial trivial rfl) zw zm
  · rintro k ⟨h1, h2⟩
    conv => whnf
    refine VIte.dec (fun h3 => ?_) (fun h3 => ?_)
    · have ha : l[k]? = some l[k] := List.getElem?_eq_getElem (by omega)
      have hm := fun h => hso l[k] h (List.getElem_mem (by omega))
      generalize l[k] = a at ha hm
      rw [fidx_at ha] at h2
      conv => whnf
      repeat' (first | ((first | refine zs1 ?_ | refine zs2 ?_ | refine zs3 ?_ | refine zs4 ?_ | refine zs5 ?_ | refine zs6 [] ?_); conv => whnf) | ((first | apply zi1 | apply zi2 | apply zi3 | apply zi4 | apply zi5) <;> intro _ <;> conv => whnf) | (refine VAny.ix encIe_len k (by omega) rfl ha ?_; conv => whnf))
      refine VCall.intro (hm _) ?_
      conv => whnf
      cases hq : q a
      · rw [hq] at h2
        conv => whnf
        repeat (first | ((first | refine zs1 ?_ | refine zs2 ?_ | refine zs3 ?_ | refine zs4 ?_ | refine zs5 ?_ | refine zs6 [] ?_); conv => whnf))
        refine LEnd.intro (k + 1) ⟨by omega, h2⟩ (by omega) ?_
        conv => whnf
        refine Retell.turn ⟨[], 0, [], []⟩ (TurnOk.mk' _ _ [] [] (OutOk.lift _) rfl (by decide) zb trivial trivial rfl) zw zm
      · rw [hq] at h2
        rw [h2]
        conv => whnf
        repeat (first | ((first | refine zs1 ?_ | refine zs2 ?_ | refine zs3 ?_ | refine zs4 ?_ | refine zs5 ?_ | refine zs6 [] ?_); conv => whnf))
        exact VOut.same rfl
    · rw [List.drop_of_length_le (by omega), fidx] at h2
      rw [h2]
      conv => whnf
      repeat (first | ((first | refine zs1 ?_ | refine zs2 ?_ | refine zs3 ?_ | refine zs4 ?_ | refine zs5 ?_ | refine zs6 [] ?_); conv => whnf))
      exact VOut.same rfl
theorem vc_ixDI (l : List Int) (q : Int → Bool) (g : FuncId) (caps : List D) (hl : l.length ≤ 4000000) (hso : ∀ (e : Int) (h : Hp), e ∈ l → VC Tryz.prog g ([I e] ++ D.vs caps) h (B (q e)) h) (h : Hp) :
    VC Tryz.prog 67 [ints l, .func (.func g) [] (D.vs caps)] h (I (fidx q l 0)) h := by
  obtain ⟨E, hE⟩ : ∃ E, E = fidx q l 0 := ⟨_, rfl⟩
  rw [← hE]
  refine VC.body Tryz.func67 rfl Tryz.ntmps67 Tryz.call67 (h.grows_refl) rfl ?_; conv => whnf
  rw [rens_dvs]
  refine VCode.lp (fun k : Nat => [(0, ints l), (1, .func (.func g) [] (D.vs caps)), (7, I l.length), (8, I k)]) (fun _ => []) (fun k => k ≤ l.length ∧ E = fidx q (l.drop k) k) (fun k => l.length - k) 0 ⟨Nat.zero_le _, hE⟩ ?_ ?_
  · conv => whnf
    refine Retell.turn ⟨[], 0, [], []⟩ (TurnOk.mk' _ _ [] [] (OutOk.lift _) rfl (by decide) zb trivial trivial rfl) zw zm
  · rintro k ⟨h1, h2⟩
    conv => whnf
    refine VIte.dec (fun h3 => ?_) (fun h3 => ?_)
    · have ha : l[k]? = some l[k] := List.getElem?_eq_getElem (by omega)
      have hm := fun h => hso l[k] h (List.getElem_mem (by omega))
      generalize l[k] = a at ha hm
      rw [fidx_at ha] at h2
      conv => whnf
      repeat' (first | ((first | refine zs1 ?_ | refine zs2 ?_ | refine zs3 ?_ | refine zs4 ?_ | refine zs5 ?_ | refine zs6 [] ?_); conv => whnf) | ((first | apply zi1 | apply zi2 | apply zi3 | apply zi4 | apply zi5) <;> intro _ <;> conv => whnf) | (refine VAny.ix encI_len k (by omega) rfl ha ?_; conv => whnf))
      refine VCall.intro (hm _) ?_
      conv => whnf
      cases hq : q a
      · rw [hq] at h2
        conv => whnf
        repeat (first | ((first | refine zs1 ?_ | refine zs2 ?_ | refine zs3 ?_ | refine zs4 ?_ | refine zs5 ?_ | refine zs6 [] ?_); conv => whnf))
        refine LEnd.intro (k + 1) ⟨by omega, h2⟩ (by omega) ?_
        conv => whnf
        refine Retell.turn ⟨[], 0, [], []⟩ (TurnOk.mk' _ _ [] [] (OutOk.lift _) rfl (by decide) zb trivial trivial rfl) zw zm
      · rw [hq] at h2
        rw [h2]
        conv => whnf
        repeat (first | ((first | refine zs1 ?_ | refine zs2 ?_ | refine zs3 ?_ | refine zs4 ?_ | refine zs5 ?_ | refine zs6 [] ?_); conv => whnf))
        exact VOut.same rfl
    · rw [List.drop_of_length_le (by omega), fidx] at h2
      rw [h2]
      conv => whnf
      repeat (first | ((first | refine zs1 ?_ | refine zs2 ?_ | refine zs3 ?_ | refine zs4 ?_ | refine zs5 ?_ | refine zs6 [] ?_); conv => whnf))
      exact VOut.same rfl
theorem vc_coDB (l : List Bs) (q : Bs → Bool) (g : FuncId) (caps : List D) (hl : l.length ≤ 4000000) (hso : ∀ (e : Bs) (h : Hp), e ∈ l → VC Tryz.prog g ([vBs e] ++ D.vs caps) h (B (q e)) h) (h : Hp) :
    VC Tryz.prog 74 [bss l, .func (.func g) [] (D.vs caps)] h (B (l.any q)) h := by
  have e := fidx_nn (q := q) l 0 (Int.le_refl _)
  have c := fun h => vc_ixDB l q g caps hl hso h
  generalize fidx q l 0 = E at e c
  refine VC.body Tryz.func74 rfl Tryz.ntmps74 Tryz.call74 (h.grows_refl) rfl ?_; conv => whnf
  rw [rens_dvs]
  repeat' (first | ((first | refine zs1 ?_ | refine zs2 ?_ | refine zs3 ?_ | refine zs4 ?_ | refine zs5 ?_); conv => whnf) | ((first | apply zi1 | apply zi2 | apply zi3 | apply zi4 | apply zi5) <;> intro _ <;> first | (exfalso; omega) | contradiction | (conv => whnf)) | (refine VCall.intro (c _) ?_; conv => whnf))
  refine VOut.same ?_
  show B (decide (0 ≤ E)) = _
  congr 1
  rw [Bool.eq_iff_iff, decide_eq_true_eq]
  exact e
theorem vc_coDE (l : List Ie) (q : Ie → Bool) (g : FuncId) (caps : List D) (hl : l.length ≤ 4000000) (hso : ∀ (e : Ie) (h : Hp), e ∈ l → VC Tryz.prog g ([vIe e] ++ D.vs caps) h (B (q e)) h) (h : Hp) :
    VC Tryz.prog 76 [ies l, .func (.func g) [] (D.vs caps)] h (B (l.any q)) h := by
  have e := fidx_nn (q := q) l 0 (Int.le_refl _)
  have c := fun h => vc_ixDE l q g caps hl hso h
  generalize fidx q l 0 = E at e c
  refine VC.body Tryz.func76 rfl Tryz.ntmps76 Tryz.call76 (h.grows_refl) rfl ?_; conv => whnf
  rw [rens_dvs]
  repeat' (first | ((first | refine zs1 ?_ | refine zs2 ?_ | refine zs3 ?_ | refine zs4 ?_ | refine zs5 ?_); conv => whnf) | ((first | apply zi1 | apply zi2 | apply zi3 | apply zi4 | apply zi5) <;> intro _ <;> first | (exfalso; omega) | contradiction | (conv => whnf)) | (refine VCall.intro (c _) ?_; conv => whnf))
  refine VOut.same ?_
  show B (decide (0 ≤ E)) = _
  congr 1
  rw [Bool.eq_iff_iff, decide_eq_true_eq]
  exact e
theorem vc_coDI (l : List Int) (q : Int → Bool) (g : FuncId) (caps : List D) (hl : l.length ≤ 4000000) (hso : ∀ (e : Int) (h : Hp), e ∈ l → VC Tryz.prog g ([I e] ++ D.vs caps) h (B (q e)) h) (h : Hp) :
    VC Tryz.prog 46 [ints l, .func (.func g) [] (D.vs caps)] h (B (l.any q)) h := by
  have e := fidx_nn (q := q) l 0 (Int.le_refl _)
  have c := fun h => vc_ixDI l q g caps hl hso h
  generalize fidx q l 0 = E at e c
  refine VC.body Tryz.func46 rfl Tryz.ntmps46 Tryz.call46 (h.grows_refl) rfl ?_; conv => whnf
  rw [rens_dvs]
  repeat' (first | ((first | refine zs1 ?_ | refine zs2 ?_ | refine zs3 ?_ | refine zs4 ?_ | refine zs5 ?_); conv => whnf) | ((first | apply zi1 | apply zi2 | apply zi3 | apply zi4 | apply zi5) <;> intro _ <;> first | (exfalso; omega) | contradiction | (conv => whnf)) | (refine VCall.intro (c _) ?_; conv => whnf))
  refine VOut.same ?_
  show B (decide (0 ≤ E)) = _
  congr 1
  rw [Bool.eq_iff_iff, decide_eq_true_eq]
  exact e
theorem vc_ev1B0 (q : Bs → Bool) (g : FuncId) (x : Bs) (hso : ∀ (h : Hp), VC Tryz.prog g [vBs x] h (B (q x)) h) (h : Hp) : VC Tryz.prog 75 [vBs x, .fp [(D.func (.func g) [] [])]] h (B (!q x)) h := by
  generalize q x = r at *
  refine VC.body Tryz.func75 rfl Tryz.ntmps75 Tryz.call75 (h.grows_refl) rfl ?_; conv => whnf
  repeat' (first | ((first | refine zs1 ?_ | refine zs2 ?_ | refine zs3 ?_ | refine zs4 ?_ | refine zs5 ?_); conv => whnf) | ((first | apply zi1 | apply zi2 | apply zi3 | apply zi4 | apply zi5) <;> intro _ <;> first | (exfalso; omega) | contradiction | (conv => whnf)))
  refine VCall.intro (hso _) ?_
  conv => whnf
  repeat' (first | ((first | refine zs1 ?_ | refine zs2 ?_ | refine zs3 ?_ | refine zs4 ?_ | refine zs5 ?_); conv => whnf) | ((first | apply zi1 | apply zi2 | apply zi3 | apply zi4 | apply zi5) <;> intro _ <;> first | (exfalso; omega) | contradiction | (conv => whnf)))
  exact VOut.same rfl
theorem vc_evB0 (l : List Bs) (q : Bs → Bool) (g : FuncId) (hl : l.length ≤ 4000000) (hso : ∀ (x : Bs) (h : Hp), x ∈ l → VC Tryz.prog g [vBs x] h (B (q x)) h) (h : Hp) : VC Tryz.prog 55 [bss l, .func (.func g) [] []] h (B (l.all q)) h := by
  have c := fun h => vc_coDB l (fun x => !q x) 75 [.pt [(D.func (.func g) [] [])]] hl (fun e h he => vc_ev1B0 q g e (fun h => hso e h he) h) h
  have e : (!l.any fun x => !q x) = l.all q := by rw [List.all_eq_not_any_not]
  generalize (l.any fun x => !q x) = F at *
  refine VC.body Tryz.func55 rfl Tryz.ntmps55 Tryz.call55 (h.grows_refl) rfl ?_; conv => whnf
  repeat' (first | ((first | refine zs1 ?_ | refine zs2 ?_ | refine zs3 ?_ | refine zs4 ?_ | refine zs5 ?_); conv => whnf) | ((first | apply zi1 | apply zi2 | apply zi3 | apply zi4 | apply zi5) <;> intro _ <;> first | (exfalso; omega) | contradiction | (conv => whnf)))
  refine VCall.intro (VC.give (args' := [bss l, .func (.func 75) [] [.fp [(D.func (.func g) [] [])]]]) (loc' := [.dead]) [(0, [(D.func (.func g) [] [])])] [] (OutOk.lift _) zb zf (by exact FmAll.nil) rfl zw (c _)) ?_
  conv => whnf
  repeat' (first | ((first | refine zs1 ?_ | refine zs2 ?_ | refine zs3 ?_ | refine zs4 ?_ | refine zs5 ?_); conv => whnf) | ((first | apply zi1 | apply zi2 | apply zi3 | apply zi4 | apply zi5) <;> intro _ <;> first | (exfalso; omega) | contradiction | (conv => whnf)))
  refine VOut.same ?_
  rw [← e]; rfl
theorem vc_ev1E0 (q : Ie → Bool) (g : FuncId) (x : Ie) (hso : ∀ (h : Hp), VC Tryz.prog g [vIe x] h (B (q x)) h) (h : Hp) : VC Tryz.prog 77 [vIe x, .fp [(D.func (.func g) [] [])]] h (B (!q x)) h := by
  generalize q x = r at *
  refine VC.body Tryz.func77 rfl Tryz.ntmps77 Tryz.call77 (h.grows_refl) rfl ?_; conv => whnf
  repeat' (first | ((first | refine zs1 ?_ | refine zs2 ?_ | refine zs3 ?_ | refine zs4 ?_ | refine zs5 ?_); conv => whnf) | ((first | apply zi1 | apply zi2 | apply zi3 | apply zi4 | apply zi5) <;> intro _ <;> first | (exfalso; omega) | contradiction | (conv => whnf)))
  refine VCall.intro (hso _) ?_
  conv => whnf
  repeat' (first | ((first | refine zs1 ?_ | refine zs2 ?_ | refine zs3 ?_ | refine zs4 ?_ | refine zs5 ?_); conv => whnf) | ((first | apply zi1 | apply zi2 | apply zi3 | apply zi4 | apply zi5) <;> intro _ <;> first | (exfalso; omega) | contradiction | (conv => whnf)))
  exact VOut.same rfl
theorem vc_evE0 (l : List Ie) (q : Ie → Bool) (g : FuncId) (hl : l.length ≤ 4000000) (hso : ∀ (x : Ie) (h : Hp), x ∈ l → VC Tryz.prog g [vIe x] h (B (q x)) h) (h : Hp) : VC Tryz.prog 57 [ies l, .func (.func g) [] []] h (B (l.all q)) h := by
  have c := fun h => vc_coDE l (fun x => !q x) 77 [.pt [(D.func (.func g) [] [])]] hl (fun e h he => vc_ev1E0 q g e (fun h => hso e h he) h) h
  have e : (!l.any fun x => !q x) = l.all q := by rw [List.all_eq_not_any_not]
  generalize (l.any fun x => !q x) = F at *
  refine VC.body Tryz.func57 rfl Tryz.ntmps57 Tryz.call57 (h.grows_refl) rfl ?_; conv => whnf
  repeat' (first | ((first | refine zs1 ?_ | refine zs2 ?_ | refine zs3 ?_ | refine zs4 ?_ | refine zs5 ?_); conv => whnf) | ((first | apply zi1 | apply zi2 | apply zi3 | apply zi4 | apply zi5) <;> intro _ <;> first | (exfalso; omega) | contradiction | (conv => whnf)))
  refine VCall.intro (VC.give (args' := [ies l, .func (.func 77) [] [.fp [(D.func (.func g) [] [])]]]) (loc' := [.dead]) [(0, [(D.func (.func g) [] [])])] [] (OutOk.lift _) zb zf (by exact FmAll.nil) rfl zw (c _)) ?_
  conv => whnf
  repeat' (first | ((first | refine zs1 ?_ | refine zs2 ?_ | refine zs3 ?_ | refine zs4 ?_ | refine zs5 ?_); conv => whnf) | ((first | apply zi1 | apply zi2 | apply zi3 | apply zi4 | apply zi5) <;> intro _ <;> first | (exfalso; omega) | contradiction | (conv => whnf)))
  refine VOut.same ?_
  rw [← e]; rfl
theorem vc_ev1E1 (q : Ie → Bool) (g : FuncId) (ds : List D) (x : Ie) (hso : ∀ (h : Hp), VC Tryz.prog g [vIe x, .fp ds] h (B (q x)) h) (h : Hp) : VC Tryz.prog 77 [vIe x, .fp [(D.func (.func g) [] [.pt ds])]] h (B (!q x)) h := by
  generalize q x = r at *
  refine VC.body Tryz.func77 rfl Tryz.ntmps77 Tryz.call77 (h.grows_refl) rfl ?_; conv => whnf
  repeat' (first | ((first | refine zs1 ?_ | refine zs2 ?_ | refine zs3 ?_ | refine zs4 ?_ | refine zs5 ?_); conv => whnf) | ((first | apply zi1 | apply zi2 | apply zi3 | apply zi4 | apply zi5) <;> intro _ <;> first | (exfalso; omega) | contradiction | (conv => whnf)))
  refine VCall.intro (hso _) ?_
  conv => whnf
  repeat' (first | ((first | refine zs1 ?_ | refine zs2 ?_ | refine zs3 ?_ | refine zs4 ?_ | refine zs5 ?_); conv => whnf) | ((first | apply zi1 | apply zi2 | apply zi3 | apply zi4 | apply zi5) <;> intro _ <;> first | (exfalso; omega) | contradiction | (conv => whnf)))
  exact VOut.same rfl
theorem vc_evE1 (l : List Ie) (q : Ie → Bool) (g : FuncId) (ds : List D) (hl : l.length ≤ 4000000) (hso : ∀ (x : Ie) (h : Hp), x ∈ l → VC Tryz.prog g [vIe x, .fp ds] h (B (q x)) h) (h : Hp) : VC Tryz.prog 57 [ies l, .func (.func g) [] [.fp ds]] h (B (l.all q)) h := by
  have c := fun h => vc_coDE l (fun x => !q x) 77 [.pt [(D.func (.func g) [] [.pt ds])]] hl (fun e h he => vc_ev1E1 q g ds e (fun h => hso e h he) h) h
  have e : (!l.any fun x => !q x) = l.all q := by rw [List.all_eq_not_any_not]
  generalize (l.any fun x => !q x) = F at *
  refine VC.body Tryz.func57 rfl Tryz.ntmps57 Tryz.call57 (h.grows_refl) rfl ?_; conv => whnf
  repeat' (first | ((first | refine zs1 ?_ | refine zs2 ?_ | refine zs3 ?_ | refine zs4 ?_ | refine zs5 ?_); conv => whnf) | ((first | apply zi1 | apply zi2 | apply zi3 | apply zi4 | apply zi5) <;> intro _ <;> first | (exfalso; omega) | contradiction | (conv => whnf)))
  refine VCall.intro (VC.give (args' := [ies l, .func (.func 77) [] [.fp [(D.func (.func g) [] [.pt ds])]]]) (loc' := [.dead]) [(0, [(D.func (.func g) [] [.pt ds])])] [] (OutOk.lift _) zb zf (by exact FmAll.nil) rfl zw (c _)) ?_
  conv => whnf
  repeat' (first | ((first | refine zs1 ?_ | refine zs2 ?_ | refine zs3 ?_ | refine zs4 ?_ | refine zs5 ?_); conv => whnf) | ((first | apply zi1 | apply zi2 | apply zi3 | apply zi4 | apply zi5) <;> intro _ <;> first | (exfalso; omega) | contradiction | (conv => whnf)))
  refine VOut.same ?_
  rw [← e]; rfl
theorem vc_ev1I0 (q : Int → Bool) (g : FuncId) (x : Int) (hso : ∀ (h : Hp), VC Tryz.prog g [I x] h (B (q x)) h) (h : Hp) : VC Tryz.prog 68 [I x, .fp [(D.func (.func g) [] [])]] h (B (!q x)) h := by
  generalize q x = r at *
  refine VC.body Tryz.func68 rfl Tryz.ntmps68 Tryz.call68 (h.grows_refl) rfl ?_; conv => whnf
  repeat' (first | ((first | refine zs1 ?_ | refine zs2 ?_ | refine zs3 ?_ | refine zs4 ?_ | refine zs5 ?_); conv => whnf) | ((first | apply zi1 | apply zi2 | apply zi3 | apply zi4 | apply zi5) <;> intro _ <;> first | (exfalso; omega) | contradiction | (conv => whnf)))
  refine VCall.intro (hso _) ?_
  conv => whnf
  repeat' (first | ((first | refine zs1 ?_ | refine zs2 ?_ | refine zs3 ?_ | refine zs4 ?_ | refine zs5 ?_); conv => whnf) | ((first | apply zi1 | apply zi2 | apply zi3 | apply zi4 | apply zi5) <;> intro _ <;> first | (exfalso; omega) | contradiction | (conv => whnf)))
  exact VOut.same rfl
theorem vc_evI0 (l : List Int) (q : Int → Bool) (g : FuncId) (hl : l.length ≤ 4000000) (hso : ∀ (x : Int) (h : Hp), x ∈ l → VC Tryz.prog g [I x] h (B (q x)) h) (h : Hp) : VC Tryz.prog 49 [ints l, .func (.func g) [] []] h (B (l.all q)) h := by
  have c := fun h => vc_coDI l (fun x => !q x) 68 [.pt [(D.func (.func g) [] [])]] hl (fun e h he => vc_ev1I0 q g e (fun h => hso e h he) h) h
  have e : (!l.any fun x => !q x) = l.all q := by rw [List.all_eq_not_any_not]
  generalize (l.any fun x => !q x) = F at *
  refine VC.body Tryz.func49 rfl Tryz.ntmps49 Tryz.call49 (h.grows_refl) rfl ?_; conv => whnf
  repeat' (first | ((first | refine zs1 ?_ | refine zs2 ?_ | refine zs3 ?_ | refine zs4 ?_ | refine zs5 ?_); conv => whnf) | ((first | apply zi1 | apply zi2 | apply zi3 | apply zi4 | apply zi5) <;> intro _ <;> first | (exfalso; omega) | contradiction | (conv => whnf)))
  refine VCall.intro (VC.give (args' := [ints l, .func (.func 68) [] [.fp [(D.func (.func g) [] [])]]]) (loc' := [.dead]) [(0, [(D.func (.func g) [] [])])] [] (OutOk.lift _) zb zf (by exact FmAll.nil) rfl zw (c _)) ?_
  conv => whnf
  repeat' (first | ((first | refine zs1 ?_ | refine zs2 ?_ | refine zs3 ?_ | refine zs4 ?_ | refine zs5 ?_); conv => whnf) | ((first | apply zi1 | apply zi2 | apply zi3 | apply zi4 | apply zi5) <;> intro _ <;> first | (exfalso; omega) | contradiction | (conv => whnf)))
  refine VOut.same ?_
  rw [← e]; rfl
end Go.Proofs.YtajnkenbhmkjaaaGreat

open Go.Vm
open Riv
namespace Go.Proofs.YtajnkenbhmkjaaaGreat
set_option maxRecDepth 20000
set_option maxHeartbeats 4000000

/-! ### Maps of plots -/
structure EOk (W : Nat) (o : List Int) : Prop where
  n : 1 ≤ o.length ∧ o.length ≤ 100
  w : 1 ≤ W
  m : o.length % W = 0
  v : ∀ x ∈ o, 0 ≤ x ∧ x ≤ 9
def encE (W : Nat) (o : List Int) : List D := [DI W, dints o]
def vE (W : Nat) (o : List Int) : V := .agg [I W, ints o]
theorem EOk.le {W : Nat} {o : List Int} (h : EOk W o) : W ≤ o.length := by
  have h1 := h.n
  have h2 := h.m
  refine Decidable.byContradiction fun hh => ?_
  rw [Nat.mod_eq_of_lt (by omega)] at h2
  omega
theorem vc_ein (n a b : Int) (h : Hp) : VC Tryz.prog 51 [I n, I a, I b] h (B (decide (a ≤ n ∧ n ≤ b))) h := by
  refine VC.body Tryz.func51 rfl Tryz.ntmps51 Tryz.call51 (h.grows_refl) rfl ?_; conv => whnf
  repeat' (first | ((first | refine zs1 ?_ | refine zs2 ?_ | refine zs3 ?_ | refine zs4 ?_ | refine zs5 ?_ | refine zs6 [] ?_); conv => whnf) | ((first | apply zi1 | apply zi2 | apply zi3 | apply zi4 | apply zi5) <;> intro _ <;> conv => whnf))
  all_goals (refine VOut.same ?_; simp [V.ren]; try omega)
theorem vc_counted (W : Nat) (o : List Int) (h : Hp) (e : EOk W o) : VC Tryz.prog 48 [vE W o] h (B true) h := by
  have hn := e.n
  have hw := e.w
  have hl := e.le
  have hm := e.m
  have c := fun h => vc_ein (o.length : Int) 1 100 h
  rw [decide_eq_true (by omega)] at c
  have e1 : (o.length : Int).tmod (W : Int) = ((o.length % W : Nat) : Int) := Int.ofNat_tmod _ _
  rw [hm] at e1
  unfold vE
  refine VC.body Tryz.func48 rfl Tryz.ntmps48 Tryz.call48 (h.grows_refl) rfl ?_; conv => whnf
  repeat' (first | ((first | refine zs1 ?_ | refine zs2 ?_ | refine zs3 ?_ | refine zs4 ?_ | refine zs5 ?_); conv => whnf) | ((first | apply zi1 | apply zi2 | apply zi3 | apply zi4 | apply zi5) <;> intro _ <;> first | (exfalso; omega) | contradiction | (conv => whnf)) | (refine VCall.intro (c _) ?_; conv => whnf))
  all_goals first
    | (exfalso; omega)
    | (rw [e1]; exact VOut.same rfl)
    | exact VOut.same rfl
theorem vc_eCheck1 (x : Int) (h : Hp) : VC Tryz.prog 50 [I x] h (B (decide (0 ≤ x ∧ x ≤ 9))) h := by
  have c := fun h => vc_ein x 0 9 h
  generalize decide (0 ≤ x ∧ x ≤ 9) = q at *
  refine VC.body Tryz.func50 rfl Tryz.ntmps50 Tryz.call50 (h.grows_refl) rfl ?_; conv => whnf
  repeat' (first | ((first | refine zs1 ?_ | refine zs2 ?_ | refine zs3 ?_ | refine zs4 ?_ | refine zs5 ?_); conv => whnf) | ((first | apply zi1 | apply zi2 | apply zi3 | apply zi4 | apply zi5) <;> intro _ <;> first | (exfalso; omega) | contradiction | (conv => whnf)) | (refine VCall.intro (c _) ?_; conv => whnf))
  exact VOut.same rfl
theorem vc_eCheck (W : Nat) (o : List Int) (h : Hp) (e : EOk W o) : VC Tryz.prog 29 [vE W o] h (I 0) h := by
  have hn := e.n
  have c0 := fun h => vc_counted W o h e
  have c1 := fun h => vc_evI0 o (fun x => decide (0 ≤ x ∧ x ≤ 9)) 50 (by omega) (fun x h _ => vc_eCheck1 x h) h
  rw [List.all_eq_true.2 fun x hx => decide_eq_true (e.v x hx)] at c1
  unfold vE at *
  refine VC.body Tryz.func29 rfl Tryz.ntmps29 Tryz.call29 (h.grows_refl) rfl ?_; conv => whnf
  repeat' (first | ((first | refine zs1 ?_ | refine zs2 ?_ | refine zs3 ?_ | refine zs4 ?_ | refine zs5 ?_); conv => whnf) | ((first | apply zi1 | apply zi2 | apply zi3 | apply zi4 | apply zi5) <;> intro _ <;> first | (exfalso; omega) | contradiction | (conv => whnf)) | (refine VCall.intro (c0 _) ?_; conv => whnf) | (refine VCall.intro (c1 _) ?_; conv => whnf))
  exact VOut.same rfl
def rimB (W n p : Nat) : Bool := decide (p < W ∨ n - W ≤ p ∨ p % W = 0 ∨ p % W = W - 1)
theorem vc_rim (W : Nat) (o : List Int) (p : Nat) (h : Hp) (e : EOk W o) (hp : p < o.length) : VC Tryz.prog 72 [vE W o, I p] h (B (rimB W o.length p)) h := by
  have hn := e.n
  have hw := e.w
  have hl := e.le
  have e1 : (p : Int).tmod (W : Int) = ((p % W : Nat) : Int) := Int.ofNat_tmod _ _
  have hr := Nat.mod_lt p (show 0 < W by omega)
  unfold rimB vE
  generalize p % W = r at *
  by_cases h1 : p < W
  · rw [decide_eq_true (.inl h1)]
    refine VC.body Tryz.func72 rfl Tryz.ntmps72 Tryz.call72 (h.grows_refl) rfl ?_; conv => whnf
    repeat' (first | ((first | refine zs1 ?_ | refine zs2 ?_ | refine zs3 ?_ | refine zs4 ?_ | refine zs5 ?_); conv => whnf) | ((first | apply zi1 | apply zi2 | apply zi3 | apply zi4 | apply zi5) <;> intro _ <;> first | (exfalso; omega) | contradiction | (conv => whnf)))
    refine zs6 [] ?_
    conv => whnf
    repeat' (first | ((first | refine zs1 ?_ | refine zs2 ?_ | refine zs3 ?_ | refine zs4 ?_ | refine zs5 ?_); conv => whnf) | ((first | apply zi1 | apply zi2 | apply zi3 | apply zi4 | apply zi5) <;> intro _ <;> first | (exfalso; omega) | contradiction | (conv => whnf)))
    all_goals exact VOut.same rfl
  · by_cases h2 : o.length - W ≤ p
    · rw [decide_eq_true (.inr (.inl h2))]
      refine VC.body Tryz.func72 rfl Tryz.ntmps72 Tryz.call72 (h.grows_refl) rfl ?_; conv => whnf
      repeat' (first | ((first | refine zs1 ?_ | refine zs2 ?_ | refine zs3 ?_ | refine zs4 ?_ | refine zs5 ?_); conv => whnf) | ((first | apply zi1 | apply zi2 | apply zi3 | apply zi4 | apply zi5) <;> intro _ <;> first | (exfalso; omega) | contradiction | (conv => whnf)))
      refine zs6 [] ?_
      conv => whnf
      repeat' (first | ((first | refine zs1 ?_ | refine zs2 ?_ | refine zs3 ?_ | refine zs4 ?_ | refine zs5 ?_); conv => whnf) | ((first | apply zi1 | apply zi2 | apply zi3 | apply zi4 | apply zi5) <;> intro _ <;> first | (exfalso; omega) | contradiction | (conv => whnf)))
      all_goals exact VOut.same rfl
    · by_cases h3 : r = 0
      · rw [decide_eq_true (.inr (.inr (.inl h3)))]
        refine VC.body Tryz.func72 rfl Tryz.ntmps72 Tryz.call72 (h.grows_refl) rfl ?_; conv => whnf
        repeat' (first | ((first | refine zs1 ?_ | refine zs2 ?_ | refine zs3 ?_ | refine zs4 ?_ | refine zs5 ?_); conv => whnf) | ((first | apply zi1 | apply zi2 | apply zi3 | apply zi4 | apply zi5) <;> intro _ <;> first | (exfalso; omega) | contradiction | (conv => whnf)))
        refine zs6 [] ?_
        conv => whnf
        repeat' (first | ((first | refine zs1 ?_ | refine zs2 ?_ | refine zs3 ?_ | refine zs4 ?_ | refine zs5 ?_); conv => whnf) | ((first | apply zi1 | apply zi2 | apply zi3 | apply zi4 | apply zi5) <;> intro _ <;> first | (exfalso; omega) | contradiction | (conv => whnf)))
        all_goals exact VOut.same rfl
      · have e4 : decide (p < W ∨ o.length - W ≤ p ∨ r = 0 ∨ r = W - 1) = decide (r = W - 1) := by rw [decide_eq_decide]; omega
        rw [e4]
        by_cases h4 : r = W - 1
        · rw [decide_eq_true h4]
          have hq : ((r : Int) == (W : Int) - 1) = true := by rw [beq_iff_eq]; omega
          refine VC.body Tryz.func72 rfl Tryz.ntmps72 Tryz.call72 (h.grows_refl) rfl ?_; conv => whnf
          repeat' (first | ((first | refine zs1 ?_ | refine zs2 ?_ | refine zs3 ?_ | refine zs4 ?_ | refine zs5 ?_); conv => whnf) | ((first | apply zi1 | apply zi2 | apply zi3 | apply zi4 | apply zi5) <;> intro _ <;> first | (exfalso; omega) | contradiction | (conv => whnf)))
          refine zs6 [] ?_
          conv => whnf
          repeat' (first | ((first | refine zs1 ?_ | refine zs2 ?_ | refine zs3 ?_ | refine zs4 ?_ | refine zs5 ?_); conv => whnf) | ((first | apply zi1 | apply zi2 | apply zi3 | apply zi4 | apply zi5) <;> intro _ <;> first | (exfalso; omega) | contradiction | (conv => whnf)))
          all_goals (refine VOut.same ?_; rw [e1, hq]; rfl)
        · rw [decide_eq_false h4]
          have hq : ((r : Int) == (W : Int) - 1) = false := by rw [Bool.eq_false_iff]; intro hh; rw [beq_iff_eq] at hh; omega
          refine VC.body Tryz.func72 rfl Tryz.ntmps72 Tryz.call72 (h.grows_refl) rfl ?_; conv => whnf
          repeat' (first | ((first | refine zs1 ?_ | refine zs2 ?_ | refine zs3 ?_ | refine zs4 ?_ | refine zs5 ?_); conv => whnf) | ((first | apply zi1 | apply zi2 | apply zi3 | apply zi4 | apply zi5) <;> intro _ <;> first | (exfalso; omega) | contradiction | (conv => whnf)))
          refine zs6 [] ?_
          conv => whnf
          repeat' (first | ((first | refine zs1 ?_ | refine zs2 ?_ | refine zs3 ?_ | refine zs4 ?_ | refine zs5 ?_); conv => whnf) | ((first | apply zi1 | apply zi2 | apply zi3 | apply zi4 | apply zi5) <;> intro _ <;> first | (exfalso; omega) | contradiction | (conv => whnf)))
          all_goals (refine VOut.same ?_; rw [e1, hq]; rfl)
/-! ### The neighbours of a plot -/
def vNbs (W : Nat) (o : List Int) (n : Nat) : V := .func (.func 53) [] [.fp [DI n], .fp (encE W o)]
theorem vc_nbs (W : Nat) (o : List Int) (n : Nat) (h : Hp) : VC Tryz.prog 32 [vE W o, I n] h (vNbs W o n) h := by
  unfold vE vNbs
  refine VC.body Tryz.func32 rfl Tryz.ntmps32 Tryz.call32 (h.grows_refl) rfl ?_; conv => whnf
  repeat' (first | ((first | refine zs1 ?_ | refine zs2 ?_ | refine zs3 ?_ | refine zs4 ?_ | refine zs5 ?_ | refine zs6 [] ?_); conv => whnf) | ((first | apply zi1 | apply zi2 | apply zi3 | apply zi4 | apply zi5) <;> intro _ <;> conv => whnf))
  refine VOut.data 2 [(0, encE W o), (1, [DI n])] [] rfl zf (by exact FmAll.nil) zw
theorem iter_nbs (W : Nat) (o : List Int) (n : Nat) (hW : 1 ≤ W ∧ W ≤ 100000) (hn : n < o.length) (hc : o.length ≤ 4000000) : IterS Tryz.prog 53 [] [.fp [DI n], .fp (encE W o)] 4 (nbY W o.length n) := by
  intro h i J hs h0
  obtain ⟨g, g0, g1, hI⟩ := iterS_seq (ys := nbY W o.length n) hs h0
  have hgr : ∀ j, j ≤ 4 → h.grows (g j) := by
    intro j
    induction j with
    | zero => intro _; rw [g0]; exact h.grows_refl
    | succ j ih =>
      intro hj
      rcases g1 j (by omega) with ⟨_, e⟩ | ⟨vs, _, hv⟩
      · rw [e]; exact ih (by omega)
      · exact fun k hk => hv.1 k (ih (by omega) k hk)
  have gA := g1 0 (by omega)
  have gB := g1 1 (by omega)
  have gC := g1 2 (by omega)
  have gD := g1 3 (by omega)
  have hend := hgr 4 (by omega)
  refine ⟨g 4, ?_, hI⟩
  clear hI hgr g1 hs h0
  generalize g 4 = h4 at *
  generalize g 3 = h3 at *
  generalize g 2 = h2 at *
  generalize g 1 = h1 at *
  obtain rfl : h = g 0 := g0.symm
  generalize g 0 = h0 at *
  clear g0
  have e1 : (n : Int).tmod (W : Int) = ((n % W : Nat) : Int) := Int.ofNat_tmod n W
  have hr := Nat.mod_lt n (show 0 < W by omega)
  simp only [nbY, nbO] at gA gB gC gD
  rw [show encE W o = [DI W, .sl 1 o.length (o.flatMap encI)] from rfl]
  have key : ∀ {c : Prop} [Decidable c] {q : Nat} {a b : Hp}, (((if c then none else some q : Option Nat).map fun q : Nat => [I q]) = none ∧ b = a ∨ ∃ vs, ((if c then none else some q : Option Nat).map fun q : Nat => [I q]) = some vs ∧ VY Tryz.prog i vs a (.s (.bool true)) b) → (c ∧ b = a) ∨ (¬ c ∧ VY Tryz.prog i [I q] a (.s (.bool true)) b) := by
    intro c _ q a b h
    by_cases hc : c
    · rw [if_pos hc] at h
      rcases h with ⟨_, h⟩ | ⟨vs, h, _⟩
      · exact .inl ⟨hc, h⟩
      · cases h
    · rw [if_neg hc] at h
      rcases h with ⟨h, _⟩ | ⟨vs, h, hv⟩
      · cases h
      · cases h; exact .inr ⟨hc, hv⟩
  have gA := key gA
  have gB := key gB
  have gC := key gC
  have gD := key gD
  clear key
  have qA : ¬ n < W → ((n - W : Nat) : Int) = (n : Int) - W := fun h => by omega
  have qB : ¬ n % W = 0 → ((n - 1 : Nat) : Int) = (n : Int) - 1 := fun h => by
    have : n ≠ 0 := fun e => h (by rw [e]; exact Nat.zero_mod W)
    omega
  have qC : ((n + 1 : Nat) : Int) = (n : Int) + 1 := by omega
  have qD : ((n + W : Nat) : Int) = (n : Int) + W := by omega
  rw [qC] at gC
  rw [qD] at gD
  generalize n % W = r at *
  rcases gA with ⟨a1, rfl⟩ | ⟨a1, yA⟩ <;> rcases gB with ⟨b1, rfl⟩ | ⟨b1, yB⟩ <;> rcases gC with ⟨c1, rfl⟩ | ⟨c1, yC⟩ <;> rcases gD with ⟨d1, rfl⟩ | ⟨d1, yD⟩
  all_goals (
    (try rw [qA a1] at yA)
    (try rw [qB b1] at yB)
    refine VC.body Tryz.func53 rfl Tryz.ntmps53 Tryz.call53 hend rfl ?_
    conv => whnf)
  all_goals (
    repeat' (first | ((first | refine zs1 ?_ | refine zs2 ?_ | refine zs3 ?_ | refine zs4 ?_ | refine zs5 ?_); conv => whnf) | ((first | apply zi1 | apply zi2 | apply zi3 | apply zi4 | apply zi5) <;> intro _ <;> first | (exfalso; omega) | contradiction | (conv => whnf)) | (refine VYield.intro (VY.lift _ yA) ?_; conv => whnf) | (refine VYield.intro (VY.lift _ yB) ?_; conv => whnf) | (refine VYield.intro (VY.lift _ yC) ?_; conv => whnf) | (refine VYield.intro (VY.lift _ yD) ?_; conv => whnf)))
  all_goals first
    | exact VOut.lifted (r := .tuple []) hend
    | (exfalso; omega)
/-! ### The stack -/
theorem backR_old {h : Hp} {i : Vm.Id} (hi : h.get i ≠ none) (pm : List Nat) (L : Nat) : backR h.loc.length pm L i = .out i := by
  cases i with
  | out i => rfl
  | loc k =>
    have hk : k < h.loc.length := by
      rcases Nat.lt_or_ge k h.loc.length with h1 | h1
      · exact h1
      · exact absurd (List.getElem?_eq_none h1) hi
    simp [backR, hk]
def upS (h : Hp) (sI lI : Vm.Id) (n : Nat) : List (Vm.Id × Blk) := [(lI, .dead), (sI, .cells true [.gl h.fresh 1 n])]
def effP (h : Hp) (sI lI : Vm.Id) (l : List Int) : Hp := (h.sets (upS h sI lI l.length)).pushes [.flat true (l.flatMap encI)]
theorem VMem.app1T {P : Program} {t ty : TypeId} {e bytes : Nat} {zero : List V} {s_ : Nat} {a_ : Bool} {z_ : V} {h : Hp} {i j : Vm.Id} {n : Nat} {l : List Int} {ds : List D} {rw : Bool} {K : V → Hp → Prop} (a : Int) (hTt : tiOf P t = some ⟨.slice e 1 bytes zero, s_, a_, z_⟩)
    (hb : h.get i = some (.flat true ds)) (hd : ds.take l.length = l.flatMap encI) (hj : h.get j = some (.flat rw (encI a))) (hn : n = l.length) (hby : Nat.ble bytes 1048576 = true) (h63 : l.length ≤ 67108864)
    (hK : K (.gl h.fresh 1 (n + 1)) ((h.set i .dead).push (.flat true ((l ++ [a]).flatMap encI)))) : VMem P (opAppend #[t, t] ty) [.gl i 1 n, .gl j 1 1] h K := by
  subst hn
  have fl : (l.flatMap encI).length = l.length := by rw [flat_len encI_len, Nat.mul_one]
  have hle : l.length ≤ ds.length := by
    have := congrArg List.length hd
    rw [fl, List.length_take] at this
    omega
  refine VMem.intro (does_append_gl (b := .flat true ds) (l := ds.map D.v) (news := [I a]) (tiOf_ok P) hTt hb rfl ?_ ?_ ?_ (mul_bd (n := l.length + 1) hby (by omega)) (by omega)) hK
  · simp only [SegOf]
    exact ⟨trivial, trivial, _, rw, [I a], hj, rfl, by simp, by simp⟩
  · rw [List.length_map]; omega
  · simp only [Blk.row, Option.some.injEq, Prod.mk.injEq, true_and]
    rw [Nat.mul_one, ← List.map_take, hd, List.flatMap_append, List.map_append]
    rfl
theorem vc_put (x : Int) (l : List Int) (ds : List D) (sI lI : Vm.Id) (h : Hp) (h1 : h.get sI = some (.cells true [.gl lI 1 l.length])) (h2 : h.get lI = some (.flat true ds)) (hd : ds.take l.length = l.flatMap encI) (hne : sI ≠ lI) (hl : l.length ≤ 4000000) :
    VC Tryz.prog 31 [.ptr sI 0, I x] h (.tuple []) (effP h sI lI (l ++ [x])) := by
  have hg : h.grows (effP h sI lI (l ++ [x])) := by
    refine Hp.grows_sets fun p hp => ?_
    simp only [upS, List.mem_cons, List.not_mem_nil, or_false] at hp
    rcases hp with rfl | rfl
    · rw [h2]; simp
    · rw [h1]; simp
  refine VC.body Tryz.func31 rfl Tryz.ntmps31 Tryz.call31 hg rfl ?_
  conv => whnf
  repeat' (first | ((first | refine zs1 ?_ | refine zs2 ?_ | refine zs3 ?_ | refine zs4 ?_ | refine zs5 ?_); conv => whnf) | ((first | apply zi1 | apply zi2 | apply zi3 | apply zi4 | apply zi5) <;> intro _ <;> first | (exfalso; omega) | contradiction | (conv => whnf)) | (refine VLd.cell rfl rfl (get_out h1 _) rfl ?_; conv => whnf) | (refine VMem.app1T (l := l) x rfl (get_out h2 _) hd rfl rfl rfl (by omega) ?_; conv => whnf))
  refine VMem.st1 rfl rfl rfl (get_outNe hne (get_out h1 _)) rfl ?_
  conv => whnf
  repeat' (first | ((first | refine zs1 ?_ | refine zs2 ?_ | refine zs3 ?_ | refine zs4 ?_ | refine zs5 ?_); conv => whnf) | ((first | apply zi1 | apply zi2 | apply zi3 | apply zi4 | apply zi5) <;> intro _ <;> first | (exfalso; omega) | contradiction | (conv => whnf)))
  refine VOut.upd (r1 := .tuple []) (r := .tuple []) (upS h sI lI (l ++ [x]).length) [.flat true ((l ++ [x]).flatMap encI)] [1] 9 ?_ ?_ (by simp) rfl ?_ (fun σ x hx => hx) ?_
  · rfl
  · intro p hp
    simp only [upS, List.mem_cons, List.not_mem_nil, or_false] at hp
    rcases hp with rfl | rfl
    · rw [h2]; simp
    · rw [h1]; simp
  · intro k b hk
    cases k with
    | zero => rw [List.getElem?_cons_zero, Option.some.injEq] at hk; subst hk; exact ⟨1, rfl, rfl⟩
    | succ k => simp at hk
  · have e1 : (Blk.cells true [V.gl h.fresh 1 (l ++ [x]).length]).ren (backR h.loc.length [1] 9) = .cells true [.gl (.loc 1) 1 (l.length + 1)] := by simp [Blk.ren, V.ren, backR, Hp.fresh]
    simp only [upS, List.map_cons, List.map_nil, e1]
    rfl
theorem vc_take (x : Int) (l : List Int) (ds : List D) (sI lI : Vm.Id) (h : Hp) (h1 : h.get sI = some (.cells true [.gl lI 1 (l.length + 1)])) (h2 : h.get lI = some (.flat true ds)) (hd : ds.take (l.length + 1) = (l ++ [x]).flatMap encI) (hl : l.length ≤ 4000000) :
    VC Tryz.prog 33 [.ptr sI 0] h (I x) (h.set sI (.cells true [.gl lI 1 l.length])) := by
  have hx : ds[l.length]? = some (DI x) := by
    have fl : (l.flatMap encI).length = l.length := by rw [flat_len encI_len, Nat.mul_one]
    have := congrArg (fun t => t[l.length]?) hd
    simp only [List.getElem?_take] at this
    rw [if_pos (by omega)] at this
    rw [this, List.flatMap_append, List.getElem?_append_right (by omega), fl, Nat.sub_self]
    rfl
  have hx2 : ∀ n : Nat, n = l.length → ds[n]? = some (DI x) := fun n e => by rw [e]; exact hx
  refine VC.body Tryz.func33 rfl Tryz.ntmps33 Tryz.call33 (h.grows_set _ _) rfl ?_
  conv => whnf
  repeat' (first | ((first | refine zs1 ?_ | refine zs2 ?_ | refine zs3 ?_ | refine zs4 ?_ | refine zs5 ?_); conv => whnf) | ((first | apply zi1 | apply zi2 | apply zi3 | apply zi4 | apply zi5) <;> intro _ <;> first | (exfalso; omega) | contradiction | (conv => whnf)) | (refine VLd.cell rfl rfl (get_out h1 _) rfl ?_; conv => whnf) | (refine VLd.flat rfl rfl (get_out h2 _) (hx2 _ (by show (_ : Nat) * 1 = _; omega)) ?_; conv => whnf) | (refine VAny.intro (v := .gl (.out lI) 1 l.length) ⟨by omega, l.length, by omega, .inl ⟨rfl, rfl⟩⟩ ?_; conv => whnf))
  refine VMem.st1 rfl rfl rfl (get_out h1 _) rfl ?_
  conv => whnf
  repeat' (first | ((first | refine zs1 ?_ | refine zs2 ?_ | refine zs3 ?_ | refine zs4 ?_ | refine zs5 ?_); conv => whnf) | ((first | apply zi1 | apply zi2 | apply zi3 | apply zi4 | apply zi5) <;> intro _ <;> first | (exfalso; omega) | contradiction | (conv => whnf)))
  have hl2 : h.get lI ≠ none := by rw [h2]; simp
  have := VOut.upd (h := h) (loc := []) (r1 := I x) (r := I x) [(sI, .cells true [.gl lI 1 l.length])] [] [] 9 rfl (by intro p hp; simp only [List.mem_cons, List.not_mem_nil, or_false] at hp; subst hp; rw [h1]; simp) (by simp) rfl (by intro k b hk; simp at hk) (fun σ x hx => hx) (outer := outW h.lift sI (.cells true [.gl (.out lI) 1 l.length])) (by
    simp only [List.map_cons, List.map_nil, Blk.ren, V.ren, backR_old hl2]
    rfl)
  rw [show (h.sets [(sI, Blk.cells true [V.gl lI 1 l.length])]).pushes [] = h.set sI (.cells true [V.gl lI 1 l.length]) by simp only [Hp.sets, Hp.pushes, List.append_nil]] at this
  exact this
end Go.Proofs.YtajnkenbhmkjaaaGreat

open Go.Vm
open Riv
namespace Go.Proofs.YtajnkenbhmkjaaaGreat
set_option maxRecDepth 20000
set_option maxHeartbeats 4000000

/-! ### Regions: what is done, in plain words -/
def putE (o : List Int) (ow mn : Int) (st : List Int × List Nat) (k : Nat) : List Int × List Nat :=
  if at0 st.1 k = -1 ∧ at0 o k = ow then (st.1.set k mn, st.2 ++ [k]) else st
def flE (o : List Int) (W : Nat) (ow mn : Int) : Nat → List Int × List Nat → List Int
  | 0, st => st.1
  | N + 1, st => match st.2.getLast? with
    | none => st.1
    | some p => flE o W ow mn N ((nbs W o.length p).foldl (putE o ow mn) (st.1, st.2.dropLast))
def opE (o : List Int) (W : Nat) : Nat → List Int × Nat
  | 0 => (List.replicate o.length (-1), 0)
  | k + 1 => if at0 (opE o W k).1 k = -1 then (flE o W (at0 o k) (opE o W k).2 o.length ((opE o W k).1.set k (opE o W k).2, [k]), (opE o W k).2 + 1) else opE o W k
structure EI (n : Nat) (st : List Int × List Nat) : Prop where
  len : st.1.length = n
  lt : ∀ k ∈ st.2, k < n
def muE (st : List Int × List Nat) : Nat := st.2.length + st.1.count (-1)
theorem cnt_set {m : Int} (hm : m ≠ -1) : ∀ (R : List Int) (k : Nat), R[k]? = some (-1) → (R.set k m).count (-1) + 1 = R.count (-1)
  | [], k, h => by simp at h
  | a :: R, 0, h => by
    simp only [List.getElem?_cons_zero, Option.some.injEq] at h
    subst h
    rw [List.set_cons_zero, List.count_cons_self, List.count_cons_of_ne (by simpa using hm)]
  | a :: R, k + 1, h => by
    simp only [List.getElem?_cons_succ] at h
    have := cnt_set hm R k h
    rw [List.set_cons_succ, List.count_cons, List.count_cons]
    omega
theorem putE_ok {n : Nat} {o : List Int} {ow mn : Int} {st : List Int × List Nat} {k : Nat} (hI : EI n st) (hk : k < n) (hm : mn ≠ -1) : EI n (putE o ow mn st k) ∧ muE (putE o ow mn st k) = muE st := by
  unfold putE
  split
  · rename_i h
    have ha : st.1[k]? = some (-1) := by rw [at0_get (by rw [hI.len]; exact hk), h.1]
    have hc := cnt_set hm st.1 k ha
    refine ⟨⟨by dsimp only; rw [List.length_set]; exact hI.len, fun x hx => ?_⟩, ?_⟩
    · rcases List.mem_append.1 hx with hx | hx
      · exact hI.lt x hx
      · rw [List.mem_singleton] at hx; omega
    · unfold muE
      dsimp only
      rw [List.length_append, List.length_singleton]; omega
  · exact ⟨hI, rfl⟩
theorem nbF_putE {n W : Nat} {o : List Int} {ow mn : Int} {p : Nat} (hW : 1 ≤ W) (ho : o.length = n) (hn : n % W = 0) (hp : p < n) (hm : mn ≠ -1) {st : List Int × List Nat} (hI : EI n st) (hlt : ∀ k q, k < 4 → nbO W n p k = some q → q < n) : ∀ j, j ≤ 4 → EI n (nbF (putE o ow mn) W n p st j) ∧ muE (nbF (putE o ow mn) W n p st j) = muE st
  | 0, _ => ⟨hI, rfl⟩
  | j + 1, hj => by
    have ih := nbF_putE (ow := ow) hW ho hn hp hm hI hlt j (by omega)
    cases hq : nbO W n p j with
    | none => rw [nbF_none hq]; exact ih
    | some q =>
      rw [nbF_some hq]
      have h2 := putE_ok (o := o) (ow := ow) ih.1 (hlt j q (by omega) hq) hm
      exact ⟨h2.1, h2.2.trans ih.2⟩
theorem nbO_lt {W n p : Nat} (hW : 1 ≤ W) (hn : n % W = 0) (hp : p < n) : ∀ k q, k < 4 → nbO W n p k = some q → q < n := by
  intro k q hk h
  have h1 := Nat.div_add_mod p W
  have h2 := Nat.div_add_mod n W
  have hr := Nat.mod_lt p (show 0 < W by omega)
  match k, hk with
  | 0, _ => (simp only [nbO] at h; split at h <;> first | (cases h; done) | (rw [Option.some.injEq] at h; omega))
  | 1, _ => (simp only [nbO] at h; split at h <;> first | (cases h; done) | (rw [Option.some.injEq] at h; omega))
  | 2, _ =>
    simp only [nbO] at h
    split at h
    · cases h
    rename_i h3
    rw [Option.some.injEq] at h
    subst h
    refine Decidable.byContradiction fun hh => ?_
    have h4 : p + 1 = n := by omega
    have h5 : (p + 1) % W = 0 := by rw [h4]; exact hn
    have h6 : (p + 1) % W = p % W + 1 := by
      rw [Nat.add_mod, Nat.mod_eq_of_lt (show 1 < W by omega)]
      exact Nat.mod_eq_of_lt (by omega)
    omega
  | 3, _ => (simp only [nbO] at h; split at h <;> first | (cases h; done) | (rw [Option.some.injEq] at h; omega))
theorem flE_nil {o : List Int} {W : Nat} {ow mn : Int} {N : Nat} {R : List Int} : flE o W ow mn N (R, []) = R := by
  cases N <;> rfl
theorem flE_step {o : List Int} {W : Nat} {ow mn : Int} {N : Nat} {R : List Int} {S : List Nat} {p : Nat} : flE o W ow mn (N + 1) (R, S ++ [p]) = flE o W ow mn N (nbF (putE o ow mn) W o.length p (R, S) 4) := by
  rw [nbF_all, flE]
  simp only [List.getLast?_append, List.getLast?_singleton, Option.some_or, List.dropLast_concat]
theorem mu_pop {R : List Int} {S : List Nat} {p : Nat} : muE (R, S) + 1 = muE (R, S ++ [p]) := by
  unfold muE; rw [List.length_append, List.length_singleton]; dsimp only; omega
theorem flE_len {o : List Int} {W : Nat} {ow mn : Int} (hW : 1 ≤ W) (hn : o.length % W = 0) (hm : mn ≠ -1) : ∀ (N : Nat) (st : List Int × List Nat), EI o.length st → (flE o W ow mn N st).length = o.length
  | 0, st, h => h.len
  | N + 1, st, h => by
    obtain ⟨R, S⟩ := st
    rcases List.eq_nil_or_concat S with rfl | ⟨S', p, rfl⟩
    · rw [flE_nil]; exact h.len
    · rw [List.concat_eq_append] at h ⊢
      rw [flE_step]
      have hp := h.lt p (by simp)
      have hI2 : EI o.length (R, S') := ⟨h.len, fun k hk => h.lt k (List.mem_append_left _ hk)⟩
      exact flE_len hW hn hm N _ (nbF_putE hW rfl hn hp hm hI2 (nbO_lt hW hn hp) 4 (by omega)).1
theorem opE_ok {o : List Int} {W : Nat} (hW : 1 ≤ W) (hn : o.length % W = 0) : ∀ k, k ≤ o.length → (opE o W k).1.length = o.length ∧ (opE o W k).2 ≤ k
  | 0, _ => ⟨by rw [opE]; simp, by rw [opE]; simp⟩
  | k + 1, hk => by
    have ih := opE_ok hW hn k (by omega)
    rw [opE]
    split
    · refine ⟨?_, by dsimp only; omega⟩
      refine flE_len hW hn (by omega) _ _ ⟨by dsimp only; rw [List.length_set]; exact ih.1, fun x hx => ?_⟩
      rw [List.mem_singleton] at hx; omega
    · exact ⟨ih.1, by omega⟩
theorem mu_one {n : Nat} {R : List Int} {k : Nat} {m : Int} (hm : m ≠ -1) (hl : R.length = n) (hk : k < n) (h : at0 R k = -1) : EI n (R.set k m, [k]) ∧ muE (R.set k m, [k]) ≤ n := by
  refine ⟨⟨by rw [List.length_set]; exact hl, fun x hx => by rw [List.mem_singleton] at hx; omega⟩, ?_⟩
  have ha : R[k]? = some (-1) := by rw [at0_get (by omega), h]
  have hc := cnt_set hm R k ha
  have := List.count_le_length (a := (-1 : Int)) (l := R)
  unfold muE
  rw [List.length_singleton]; dsimp only; omega
end Go.Proofs.YtajnkenbhmkjaaaGreat

open Go.Vm
open Riv
namespace Go.Proofs.YtajnkenbhmkjaaaGreat
set_option maxRecDepth 20000
set_option maxHeartbeats 4000000

/-! ### A map at work -/
def wkC (W : Nat) (o : List Int) (rg : V) (mn : Int) (ms : List D) : List V := I W :: ints o :: rg :: I mn :: D.vs ms
def ms0 : List D := List.replicate 100 (DB false)
structure OJ (ou : Vm.Id → Option Blk) (B0 B1 : Blk) (R : List Int) (S : List Nat) (g : Hp) : Prop where
  o : g.outer = ou
  b0 : g.get (.loc 0) = some B0
  b1 : g.get (.loc 1) = some B1
  b2 : g.get (.loc 2) = some (.flat true (R.flatMap encI))
  st : ∃ m ds, (m = 4 ∨ 7 ≤ m) ∧ g.get (.loc 3) = some (.cells true [.gl (.loc m) 1 (natI S).length]) ∧ g.get (.loc m) = some (.flat true ds) ∧ ds.take (natI S).length = (natI S).flatMap encI
  b5 : g.get (.loc 5) = some .mark
def upO (R : List Int) (m : Nat) (b : Blk) : List (Vm.Id × Blk) := [(.loc 2, .flat true (R.flatMap encI)), (.loc m, .dead), (.loc 3, b)]
theorem upO_ok {R : List Int} {m : Nat} {b c2 cm c3 : Blk} {g : Hp} (j2 : g.get (.loc 2) = some c2) (jm : g.get (.loc m) = some cm) (j3 : g.get (.loc 3) = some c3) : ∀ p ∈ upO R m b, g.get p.1 ≠ none := by
  intro p hp
  simp only [upO, List.mem_cons, List.not_mem_nil, or_false] at hp
  rcases hp with rfl | rfl | rfl <;> simp only
  · rw [j2]; simp
  · rw [jm]; simp
  · rw [j3]; simp
theorem OJ.step {ou : Vm.Id → Option Blk} {B0 B1 c2 cm c3 b6 : Blk} {R : List Int} {S : List Nat} {g : Hp} {m : Nat} (jo : g.outer = ou) (j0 : g.get (.loc 0) = some B0) (j1 : g.get (.loc 1) = some B1) (j2 : g.get (.loc 2) = some c2) (j3 : g.get (.loc 3) = some c3) (jm : g.get (.loc m) = some cm) (j5 : g.get (.loc 5) = some .mark) (j6 : g.get (.loc 6) = some b6) (hm : m = 4 ∨ 7 ≤ m) :
    g.grows ((g.sets (upO R m (.cells true [.gl g.fresh 1 (natI S).length]))).pushes [.flat true ((natI S).flatMap encI)]) ∧
    OJ ou B0 B1 R S ((g.sets (upO R m (.cells true [.gl g.fresh 1 (natI S).length]))).pushes [.flat true ((natI S).flatMap encI)]) ∧
    ((g.sets (upO R m (.cells true [.gl g.fresh 1 (natI S).length]))).pushes [.flat true ((natI S).flatMap encI)]).get (.loc 6) = some b6 := by
  have hgr := Hp.grows_sets (news := [.flat true ((natI S).flatMap encI)]) (upO_ok (R := R) (b := .cells true [.gl g.fresh 1 (natI S).length]) j2 jm j3)
  obtain ⟨go, gl⟩ := g
  simp only [Hp.get] at j0 j1 j2 j3 jm j5 j6
  have l0 := (List.getElem?_eq_some_iff.1 j0).1
  have l1 := (List.getElem?_eq_some_iff.1 j1).1
  have l2 := (List.getElem?_eq_some_iff.1 j2).1
  have l3 := (List.getElem?_eq_some_iff.1 j3).1
  have l5 := (List.getElem?_eq_some_iff.1 j5).1
  have l6 := (List.getElem?_eq_some_iff.1 j6).1
  have key : ∀ y, y < gl.length → y ≠ 2 → y ≠ m → y ≠ 3 → ∀ (A B C G : Blk), ((((gl.set 2 A).set m B).set 3 C) ++ [G])[y]? = gl[y]? := by
    intro y hy h1 h2 h3 A B C G
    rw [List.getElem?_append_left (by simpa using hy), List.getElem?_set_ne (Ne.symm h3), List.getElem?_set_ne (Ne.symm h2), List.getElem?_set_ne (Ne.symm h1)]
  have fl : ((natI S).flatMap encI).length = (natI S).length := by rw [flat_len encI_len, Nat.mul_one]
  refine ⟨hgr, ⟨jo, ?_, ?_, ?_, ⟨gl.length, (natI S).flatMap encI, .inr (by omega), ?_, ?_, ?_⟩, ?_⟩, ?_⟩
  · exact (key 0 l0 (by omega) (by omega) (by omega) _ _ _ _).trans j0
  · exact (key 1 l1 (by omega) (by omega) (by omega) _ _ _ _).trans j1
  · show ((((gl.set 2 _).set m _).set 3 _) ++ [_])[2]? = _
    rw [List.getElem?_append_left (by simpa using l2), List.getElem?_set_ne (by omega), List.getElem?_set_ne (by omega), List.getElem?_set_self l2]
  · show ((((gl.set 2 _).set m _).set 3 _) ++ [_])[3]? = _
    rw [List.getElem?_append_left (by simpa using l3), List.getElem?_set_self (by simpa using l3)]
    simp [Hp.fresh]
  · show ((((gl.set 2 _).set m _).set 3 _) ++ [_])[gl.length]? = _
    rw [List.getElem?_append_right (by simp)]
    simp
  · rw [← fl, List.take_of_length_le (Nat.le_refl _)]
  · exact (key 5 l5 (by omega) (by omega) (by omega) _ _ _ _).trans j5
  · exact (key 6 l6 (by omega) (by omega) (by omega) _ _ _ _).trans j6
theorem natI_app (S : List Nat) (q : Nat) : natI (S ++ [q]) = natI S ++ [(q : Int)] := by unfold natI; rw [List.map_append]; rfl
theorem wkC_wr {W : Nat} {o : List Int} {rg : V} {mn x : Int} {ms : List D} : (Blk.cells true (wkC W o rg mn ms)).wr1 3 (I x) = some (.cells true (I W :: ints o :: rg :: I x :: D.vs ms)) := by simp [Blk.wr1, wkC, V.cell1]
theorem ix1 (n : Nat) : n * (0 + 1) = n * 1 + 0 := rfl
theorem vc_eopened (W : Nat) (o : List Int) (h : Hp) (e : EOk W o) : VC Tryz.prog 14 [vE W o] h (.tuple [.ptr h.fresh 0, I 0]) (h.push (.cells true (wkC W o (ints (opE o W o.length).1) (opE o W o.length).2 ms0))) := by
  have hn := e.n
  have hw := e.w
  have hmod := e.m
  have c0 := fun h => vc_eCheck W o h e
  have cN := fun n h => vc_nbs W o n h
  have hWl := e.le
  have itN := fun n hn => iter_nbs W o n (by omega) hn (by omega)
  have hnl := fun p (hp : p < o.length) => nbO_lt hw hmod hp
  have hop := opE_ok (W := W) hw hmod
  have hos : ∀ k, opE o W (k + 1) = if at0 (opE o W k).1 k = -1 then (flE o W (at0 o k) (opE o W k).2 o.length ((opE o W k).1.set k (opE o W k).2, [k]), (opE o W k).2 + 1) else opE o W k := fun k => rfl
  have ho0 : opE o W 0 = (List.replicate o.length (-1), 0) := rfl
  generalize opE o W = A at *
  unfold vE at *
  refine VC.bodyC 2 Tryz.func14 rfl Tryz.ntmps14 Tryz.call14 (h.grows_push _) rfl ?_
  conv => whnf
  repeat' (first | ((first | refine zs1 ?_ | refine zs2 ?_ | refine zs3 ?_ | refine zs4 ?_ | refine zs5 ?_); conv => whnf) | ((first | apply zi1 | apply zi2 | apply zi3 | apply zi4 | apply zi5) <;> intro _ <;> first | (exfalso; omega) | contradiction | (conv => whnf)) | (refine VCall.intro (c0 _) ?_; conv => whnf))
  refine VCut.at' (outer := h.lift) (marks := []) 99 [(1, .fp [DI W, dints o]), (2, .nilptr), (3, I 0)] [] ?_ ?_
  · conv => whnf
    refine Retell.turn ⟨[], 9, [(0, [DI W, dints o])], []⟩ (TurnOk.mk' _ _ [(0, [DI W, dints o])] [] (OutOk.lift _) rfl (by decide) zb zf trivial rfl) zw zm
  conv => whnf
  repeat' (first | ((first | refine zs1 ?_ | refine zs2 ?_ | refine zs3 ?_ | refine zs4 ?_ | refine zs5 ?_); conv => whnf) | ((first | apply zi1 | apply zi2 | apply zi3 | apply zi4 | apply zi5) <;> intro _ <;> first | (exfalso; omega) | contradiction | (conv => whnf)))
  refine zs6 [(0, 5)] ?_
  conv => whnf
  repeat' (first | ((first | refine zs1 ?_ | refine zs2 ?_ | refine zs3 ?_ | refine zs4 ?_ | refine zs5 ?_); conv => whnf) | ((first | apply zi1 | apply zi2 | apply zi3 | apply zi4 | apply zi5) <;> intro _ <;> first | (exfalso; omega) | contradiction | (conv => whnf)))
  refine VCall.intro (VC.give (args' := [ints [-1], I o.length]) (loc' := [.dead]) [(0, [DI (-1)])] [] (OutOk.lift _) zb zf (by exact FmAll.nil) rfl zw (vc_Repeat (-1) o.length _ (by omega))) ?_
  conv => whnf
  repeat' (first | ((first | refine zs1 ?_ | refine zs2 ?_ | refine zs3 ?_ | refine zs4 ?_ | refine zs5 ?_); conv => whnf) | ((first | apply zi1 | apply zi2 | apply zi3 | apply zi4 | apply zi5) <;> intro _ <;> first | (exfalso; omega) | contradiction | (conv => whnf)))
  obtain ⟨ms, hms⟩ : ∃ l, l = ms0 := ⟨_, rfl⟩
  refine VCode.lpC (outer := h.lift) (marks := []) 2 (fun k : Nat => [(1, .fp [DI W, dints o]), (2, .nilptr), (3, I 0), (5, .ptr (.loc 0) 0), (24, ints o), (25, I o.length), (26, I k)]) (fun k => [.cells true [.ptr (.loc 1) 0], .cells true (wkC W o (.gl (.loc 2) 1 o.length) (A k).2 ms), .flat true ((A k).1.flatMap encI)]) (fun k => k ≤ o.length) (fun k => o.length - k) 0 (Nat.zero_le _) ?_ ?_
  · rw [ho0, hms]
    conv => whnf
    refine Retell.turn ⟨[3,2,1], 9, [], []⟩ (TurnOk.mk' _ _ [] [] (OutOk.lift _) rfl (by decide) zb trivial trivial rfl) zw zm
  · intro k hk
    have hopk := hop k hk
    rcases Nat.lt_or_ge k o.length with h3 | h3
    · have hxo := at0_get h3
      have hAs := hos k
      have hRk := at0_get (l := (A k).1) (n := k) (by omega)
      generalize hR : (A k).1 = R at *
      generalize hmn : (A k).2 = mn at *
      by_cases hfr : at0 R k = -1
      · rw [if_pos hfr] at hAs
        rw [hfr] at hRk
        have hone := mu_one (m := (mn : Int)) (by omega) hopk.1 h3 hfr
        obtain ⟨ow, how⟩ : ∃ a, a = at0 o k := ⟨_, rfl⟩
        rw [← how] at hxo hAs
        conv => whnf
        repeat' (first | ((first | refine zs1 ?_ | refine zs2 ?_ | refine zs3 ?_ | refine zs4 ?_ | refine zs5 ?_); conv => whnf) | ((first | apply zi1 | apply zi2 | apply zi3 | apply zi4 | apply zi5) <;> intro _ <;> first | (exfalso; omega) | contradiction | (conv => whnf)))
        refine VCut.block 4 ?_
        conv => whnf
        repeat' (first | ((first | refine zs1 ?_ | refine zs2 ?_ | refine zs3 ?_ | refine zs4 ?_ | refine zs5 ?_); conv => whnf) | ((first | apply zi1 | apply zi2 | apply zi3 | apply zi4 | apply zi5) <;> intro _ <;> first | (exfalso; omega) | contradiction | (conv => whnf)) | (refine VAny.ix encI_len k rfl rfl hxo ?_; conv => whnf) | (refine VLd.recc encI_len k 0 rfl rfl rfl hRk (by decide) rfl (ix1 _) ?_; conv => whnf))
        refine zs6 [] ?_
        conv => whnf
        repeat' (first | ((first | refine zs1 ?_ | refine zs2 ?_ | refine zs3 ?_ | refine zs4 ?_ | refine zs5 ?_); conv => whnf) | ((first | apply zi1 | apply zi2 | apply zi3 | apply zi4 | apply zi5) <;> intro _ <;> first | (exfalso; omega) | contradiction | (conv => whnf)) | (refine VMem.setRec encI_len k 0 (mn : Int) rfl rfl rfl hRk (by decide) rfl (ix1 _) ?_; conv => whnf))
        refine VCut.at' (outer := h.lift) (marks := []) 99 [(1, .fp [DI W, dints o]), (2, .nilptr), (3, I 0), (5, .ptr (.loc 0) 0), (24, ints o), (25, I o.length), (26, I k), (6, I k), (7, .fp [DI ow]), (8, .ptr (.loc 3) 0)] [.cells true [.ptr (.loc 1) 0], .cells true (wkC W o (.gl (.loc 2) 1 o.length) mn ms), .flat true ((R.set k mn).flatMap encI), .cells true [.gl (.loc 4) 1 0], .flat true []] ?_ ?_
        · conv => whnf
          refine Retell.turn ⟨[0,1,2,4,9], 9, [(3, [DI ow])], []⟩ (TurnOk.mk' _ _ [(3, [DI ow])] [] (OutOk.lift _) rfl (by decide) zb zf trivial rfl) zw zm
        · conv => whnf
          repeat' (first | ((first | refine zs1 ?_ | refine zs2 ?_ | refine zs3 ?_ | refine zs4 ?_ | refine zs5 ?_); conv => whnf) | ((first | apply zi1 | apply zi2 | apply zi3 | apply zi4 | apply zi5) <;> intro _ <;> first | (exfalso; omega) | contradiction | (conv => whnf)))
          refine VCall.intro (vc_put (k : Int) [] [] (.loc 3) (.loc 4) _ rfl rfl rfl (by decide) (by decide)) ?_
          conv => whnf
          repeat' (first | ((first | refine zs1 ?_ | refine zs2 ?_ | refine zs3 ?_ | refine zs4 ?_ | refine zs5 ?_); conv => whnf) | ((first | apply zi1 | apply zi2 | apply zi3 | apply zi4 | apply zi5) <;> intro _ <;> first | (exfalso; omega) | contradiction | (conv => whnf)))
          have hfin : flE o W ow mn o.length (R.set k mn, [k]) = (A (k + 1)).1 := by rw [hAs]
          have hfin2 : (A (k + 1)).2 = mn + 1 := by rw [hAs]
          have hmnk := hopk.2
          clear hAs hos hop hR hmn hRk hfr hopk
          generalize hA1 : A (k + 1) = Ak at *
          refine VCode.lpC (outer := h.lift) (marks := []) 99 (fun y : Nat × (List Int × List Nat) × List D => [(1, .fp [DI W, dints o]), (2, .nilptr), (3, I 0), (5, .ptr (.loc 0) 0), (24, ints o), (25, I o.length), (26, I k), (6, I k), (7, .fp [DI ow]), (8, .ptr (.loc 3) 0)]) (fun y => [.cells true [.ptr (.loc 1) 0], .cells true (wkC W o (.gl (.loc 2) 1 o.length) mn ms), .flat true (y.2.1.1.flatMap encI), .cells true [.gl (.loc 4) 1 (natI y.2.1.2).length], .flat true y.2.2])
            (fun y => y.1 ≤ o.length ∧ EI o.length y.2.1 ∧ muE y.2.1 ≤ y.1 ∧ flE o W ow mn y.1 y.2.1 = Ak.1 ∧ y.2.2.take (natI y.2.1.2).length = (natI y.2.1.2).flatMap encI) (fun y => y.1) (o.length, (R.set k mn, [k]), [DI k]) ⟨Nat.le_refl _, hone.1, hone.2, hfin, rfl⟩ ?_ ?_
          · conv => whnf
            refine Retell.turn ⟨[0,1,2,3,5], 9, [], []⟩ (TurnOk.mk' _ _ [] [] (OutOk.lift _) rfl (by decide) zb trivial trivial rfl) zw zm
          · clear hfin hone
            rintro ⟨N, ⟨R2, S2⟩, ds⟩ ⟨h4, h5, h6, h7, h8⟩
            dsimp only at h4 h5 h6 h7 h8
            rcases List.eq_nil_or_concat S2 with rfl | ⟨S3, p, rfl⟩
            · rw [flE_nil] at h7
              subst h7
              conv => whnf
              repeat' (first | ((first | refine zs1 ?_ | refine zs2 ?_ | refine zs3 ?_ | refine zs4 ?_ | refine zs5 ?_); conv => whnf) | ((first | apply zi1 | apply zi2 | apply zi3 | apply zi4 | apply zi5) <;> intro _ <;> first | (exfalso; omega) | contradiction | (conv => whnf)) | (refine VMem.st1 (b := .cells true (wkC W o (.gl (.loc 2) 1 o.length) mn ms)) rfl rfl rfl rfl wkC_wr ?_; conv => whnf))
              refine LEnd.intro (k + 1) (by omega) (by omega) ?_
              rw [hA1, hfin2]
              conv => whnf
              refine Retell.turn ⟨[0,1,2], 9, [], []⟩ (TurnOk.mk' _ _ [] [] (OutOk.lift _) rfl (by decide) zb trivial trivial rfl) zw zm
            · rw [List.concat_eq_append] at *
              obtain ⟨N, rfl⟩ : ∃ M, N = M + 1 := ⟨N - 1, by have := mu_pop (R := R2) (S := S3) (p := p); omega⟩
              rw [flE_step] at h7
              have hp := h5.lt p (by simp)
              have hI2 : EI o.length (R2, S3) := ⟨h5.len, fun k hk => h5.lt k (List.mem_append_left _ hk)⟩
              have hmu : muE (R2, S3) ≤ N := by have := mu_pop (R := R2) (S := S3) (p := p); omega
              have hst := fun j hj => nbF_putE (o := o) (ow := ow) (mn := (mn : Int)) hw rfl hmod hp (by omega) hI2 (hnl p hp) j hj
              have hS3 : (natI S3).length ≤ 4000000 := by
                rw [natI_len]
                have h10 := hmu
                unfold muE at h10
                dsimp only at h10
                omega
              have hln : (natI (S3 ++ [p])).length = (natI S3).length + 1 := by rw [natI_app, List.length_append, List.length_singleton]
              rw [hln, natI_app] at h8
              have h9 : ds.take (natI S3).length = (natI S3).flatMap encI := by
                have e1 := congrArg (List.take (natI S3).length) h8
                rw [List.take_take, Nat.min_eq_left (by omega), List.flatMap_append, List.take_left' (by rw [flat_len encI_len, Nat.mul_one])] at e1
                exact e1
              rw [hln]
              have hN := h4
              clear h5 h6
              have cT := fun h h1 h2 => vc_take (p : Int) (natI S3) ds (.loc 3) (.loc 4) h h1 h2 h8 hS3
              conv => whnf
              repeat' (first | ((first | refine zs1 ?_ | refine zs2 ?_ | refine zs3 ?_ | refine zs4 ?_ | refine zs5 ?_); conv => whnf) | ((first | apply zi1 | apply zi2 | apply zi3 | apply zi4 | apply zi5) <;> intro _ <;> first | (exfalso; omega) | contradiction | (conv => whnf)))
              refine zs6 [(0, 4), (3, 4)] ?_
              conv => whnf
              repeat' (first | ((first | refine zs1 ?_ | refine zs2 ?_ | refine zs3 ?_ | refine zs4 ?_ | refine zs5 ?_); conv => whnf) | ((first | apply zi1 | apply zi2 | apply zi3 | apply zi4 | apply zi5) <;> intro _ <;> first | (exfalso; omega) | contradiction | (conv => whnf)) | (refine VCall.intro (cT _ rfl rfl) ?_; conv => whnf) | (refine VCall.intro (cN p _) ?_; conv => whnf))
              refine VCode.tell [(1, .fp [DI W, dints o]), (2, .nilptr), (3, I 0), (5, .ptr (.loc 0) 0), (24, ints o), (25, I o.length), (26, I k), (6, I k), (7, .fp [DI ow]), (8, .ptr (.loc 3) 0), (60, vNbs W o p)] [.cells true [.ptr (.loc 1) 0], .cells true (wkC W o (.gl (.loc 2) 1 o.length) mn ms), .flat true (R2.flatMap encI), .cells true [.gl (.loc 4) 1 (natI S3).length], .flat true ds] (marks' := []) ?_ ?_
              · conv => whnf
                refine Retell.turn ⟨[0,1,2,3,4], 9, [], []⟩ (TurnOk.mk' _ _ [] [] (OutOk.lift _) rfl (by decide) zb trivial trivial rfl) zw zm
              · conv => whnf
                refine VCode.iterS 4 (nbY W o.length p) (fun j g => OJ h.lift (.cells true [.ptr (.loc 1) 0]) (.cells true (wkC W o (.gl (.loc 2) 1 o.length) mn ms)) (nbF (putE o ow mn) W o.length p (R2, S3) j).1 (nbF (putE o ow mn) W o.length p (R2, S3) j).2 g) _ (.loc 6) rfl (itN p hp) rfl rfl ⟨rfl, rfl, rfl, rfl, ⟨4, ds, .inl rfl, rfl, rfl, h9⟩, rfl⟩ ?_ ?_ ?_
                · rintro j g hj hy hJ
                  rw [nbF_none (nbY_none hy)]; exact hJ
                · rintro j g vs hj hy hJ hlp
                  obtain ⟨q, hq, rfl⟩ := nbY_some hy
                  rw [nbF_some hq]
                  have hqL := hnl p hp j q hj hq
                  have hI := (hst j (by omega)).1
                  have hmuj := (hst j (by omega)).2
                  generalize nbF (putE o ow mn) W o.length p (R2, S3) j = st at *
                  obtain ⟨R4, S4⟩ := st
                  dsimp only at hJ
                  obtain ⟨j0, j1, j2, j3, ⟨m, dj, hm, j4, j5, j6⟩, j7⟩ := hJ
                  have hb : R4[q]? = some (at0 R4 q) := at0_get (by have := hI.len; dsimp only at this; omega)
                  have hoq := at0_get hqL
                  have hm0 : Vm.Id.loc m ≠ .loc 6 := by intro h0; injection h0; omega
                  have hm3 : Vm.Id.loc 3 ≠ .loc m := by intro h0; injection h0; omega
                  have hm2 : Vm.Id.loc m ≠ .loc 2 := by intro h0; injection h0; omega
                  have hS4 : (natI S4).length ≤ 4000000 := by
                    rw [natI_len]
                    have h10 := hmu
                    rw [← hmuj] at h10
                    unfold muE at h10
                    dsimp only at h10
                    omega
                  by_cases hput : at0 R4 q = -1 ∧ at0 o q = ow
                  · have e1 : putE o ow mn (R4, S4) q = (R4.set q mn, S4 ++ [q]) := if_pos hput
                    rw [e1]
                    dsimp only
                    obtain ⟨s1, s2, s3⟩ := OJ.step (R := R4.set q mn) (S := S4 ++ [q]) j0 j1 j2 j3 j4 j5 j7 hlp hm
                    refine ⟨_, ?_, s2, s3⟩
                    rw [hput.1] at hb
                    rw [hput.2] at hoq
                    refine VRound.vy' hlp rfl rfl rfl s1 fun l0 => ?_
                    refine VRound.tell [(1, .fp [DI W, dints o]), (5, .ptr (.out (.loc 0)) 0), (7, .fp [DI ow]), (8, .ptr (.out (.loc 3)) 0), (61, I q)] ?_ ?_
                    · conv => whnf
                      refine Retell.turn ⟨[], 0, [], []⟩ (TurnOk.mk' _ _ [] [] (OutOk.lift _) rfl (by decide) zb trivial trivial rfl) zw zm
                    · conv => whnf
                      repeat (first | ((first | refine zs1 ?_ | refine zs2 ?_ | refine zs3 ?_ | refine zs4 ?_ | refine zs5 ?_ | refine zs6 [] ?_); conv => whnf))
                      refine VBegin.intro (get_out hlp _) rfl ?_
                      conv => whnf
                      refine zs6 [] ?_
                      conv => whnf
                      repeat' (first | ((first | refine zs1 ?_ | refine zs2 ?_ | refine zs3 ?_ | refine zs4 ?_ | refine zs5 ?_); conv => whnf) | ((first | apply zi1 | apply zi2 | apply zi3 | apply zi4 | apply zi5) <;> intro _ <;> first | (exfalso; omega) | contradiction | (conv => whnf)) | (refine VLd.cell rfl rfl (get_setO (by decide) j1 _) rfl ?_; conv => whnf) | (refine VLd.cell rfl rfl (get_setO (by decide) j2 _) rfl ?_; conv => whnf) | (refine VLd.recc encI_len q 0 rfl rfl (get_setO (by decide) j3 _) hb (by decide) rfl (ix1 _) ?_; conv => whnf) | (refine VAny.ix encI_len q rfl rfl hoq ?_; conv => whnf))
                      refine zs6 [] ?_
                      conv => whnf
                      repeat' (first | ((first | refine zs1 ?_ | refine zs2 ?_ | refine zs3 ?_ | refine zs4 ?_ | refine zs5 ?_); conv => whnf) | ((first | apply zi1 | apply zi2 | apply zi3 | apply zi4 | apply zi5) <;> intro _ <;> first | (exfalso; omega) | contradiction | (conv => whnf)) | (refine VLd.cell rfl rfl (get_setO (by decide) j1 _) rfl ?_; conv => whnf) | (refine VLd.cell rfl rfl (get_setO (by decide) j2 _) rfl ?_; conv => whnf) | (refine VMem.setRec encI_len q 0 (mn : Int) rfl rfl (get_setO (by decide) j3 _) hb (by decide) rfl (ix1 _) ?_; conv => whnf))
                      refine VCall.intro (vc_put (q : Int) (natI S4) dj (.out (.loc 3)) (.out (.loc m)) _ (get_outNe (by decide) (get_setO (by decide) j4 _)) (get_outNe hm2 (get_setO hm0 j5 _)) j6 (fun e => hm3 (by injection e)) hS4) ?_
                      rw [← natI_app]
                      conv => whnf
                      repeat' (first | ((first | refine zs1 ?_ | refine zs2 ?_ | refine zs3 ?_ | refine zs4 ?_ | refine zs5 ?_); conv => whnf) | ((first | apply zi1 | apply zi2 | apply zi3 | apply zi4 | apply zi5) <;> intro _ <;> first | (exfalso; omega) | contradiction | (conv => whnf)))
                      refine RFin.on (get_outNe (by decide) (get_outNe (fun e => hm0 e.symm) (get_outNe (by decide) (outW_get _ _ _ _)))) ?_
                      refine VOut.upd (upO (R4.set q mn) m (.cells true [.gl g.fresh 1 (natI (S4 ++ [q])).length])) [.flat true ((natI (S4 ++ [q])).flatMap encI)] [0] 1 ?_ (upO_ok j3 j5 j4) ?_ ?_ ?_ ?_ ?_
                      · rfl
                      · decide
                      · rfl
                      · intro k' b' hk'
                        cases k' with
                        | zero => rw [List.getElem?_cons_zero, Option.some.injEq] at hk'; subst hk'; exact ⟨0, rfl, rfl⟩
                        | succ k' => simp at hk'
                      · intro σ x hx; exact hx
                      · have e1 : (Blk.cells true [V.gl g.fresh 1 (natI (S4 ++ [q])).length]).ren (backR g.loc.length [0] 1) = .cells true [.gl (.loc 0) 1 (natI (S4 ++ [q])).length] := by simp [Blk.ren, V.ren, backR, Hp.fresh]
                        simp only [upO, List.map_cons, List.map_nil, e1]
                        exact outer_fix3 (get_out hlp []) (by decide) (fun e => hm0 e.symm) (by decide)
                  · have e1 : putE o ow mn (R4, S4) q = (R4, S4) := if_neg hput
                    rw [e1]
                    refine ⟨g, ?_, ⟨j0, j1, j2, j3, ⟨m, dj, hm, j4, j5, j6⟩, j7⟩, hlp⟩
                    generalize at0 R4 q = a at *
                    generalize at0 o q = b at *
                    refine VRound.vy' hlp rfl rfl rfl g.grows_refl fun l0 => ?_
                    refine VRound.tell [(1, .fp [DI W, dints o]), (5, .ptr (.out (.loc 0)) 0), (7, .fp [DI ow]), (8, .ptr (.out (.loc 3)) 0), (61, I q)] ?_ ?_
                    · conv => whnf
                      refine Retell.turn ⟨[], 0, [], []⟩ (TurnOk.mk' _ _ [] [] (OutOk.lift _) rfl (by decide) zb trivial trivial rfl) zw zm
                    · conv => whnf
                      repeat (first | ((first | refine zs1 ?_ | refine zs2 ?_ | refine zs3 ?_ | refine zs4 ?_ | refine zs5 ?_ | refine zs6 [] ?_); conv => whnf))
                      refine VBegin.intro (get_out hlp _) rfl ?_
                      conv => whnf
                      refine zs6 [] ?_
                      conv => whnf
                      repeat' (first | ((first | refine zs1 ?_ | refine zs2 ?_ | refine zs3 ?_ | refine zs4 ?_ | refine zs5 ?_); conv => whnf) | ((first | apply zi1 | apply zi2 | apply zi3 | apply zi4 | apply zi5) <;> intro _ <;> first | (exfalso; omega) | contradiction | (conv => whnf)) | (refine VLd.cell rfl rfl (get_setO (by decide) j1 _) rfl ?_; conv => whnf) | (refine VLd.cell rfl rfl (get_setO (by decide) j2 _) rfl ?_; conv => whnf) | (refine VLd.recc encI_len q 0 rfl rfl (get_setO (by decide) j3 _) hb (by decide) rfl (ix1 _) ?_; conv => whnf) | (refine VAny.ix encI_len q rfl rfl hoq ?_; conv => whnf))
                      all_goals first
                        | exact RFin.on (outW_get _ _ _ _) (VOut.back (get_out hlp []) rfl)
                        | (exfalso; omega)
                · rintro ⟨go, gl⟩ ⟨j0, j1, j2, j3, ⟨m, dj, hm, j4, j5, j6⟩, j7⟩ hlp
                  dsimp only at j0
                  subst j0
                  have hE := hst 4 (Nat.le_refl _)
                  generalize nbF (putE o ow mn) W o.length p (R2, S3) 4 = st at *
                  obtain ⟨R4, S4⟩ := st
                  dsimp only at j3 j4 j6
                  have j1 : gl[0]? = some _ := j1
                  have j2 : gl[1]? = some _ := j2
                  have j3 : gl[2]? = some _ := j3
                  have j4 : gl[3]? = some _ := j4
                  have j5 : gl[m]? = some _ := j5
                  have j7 : gl[5]? = some _ := j7
                  have l1 := (List.getElem?_eq_some_iff.1 j1).1
                  have l2 := (List.getElem?_eq_some_iff.1 j2).1
                  have l3 := (List.getElem?_eq_some_iff.1 j3).1
                  have l4 := (List.getElem?_eq_some_iff.1 j4).1
                  have l5 := (List.getElem?_eq_some_iff.1 j5).1
                  have key : ∀ (x : Nat) (A : Blk), x ≠ 6 → (gl.set 6 A)[x]? = gl[x]? := fun x A hx => List.getElem?_set_ne (Ne.symm hx)
                  have hmn2 : ([0, 1, 2, 3, m] : List Nat).Nodup := by simp; omega
                  have hm5 : 5 ∉ ([0, 1, 2, 3, m] : List Nat) := by simp; omega
                  refine Told.mk [(1, .fp [DI W, dints o]), (2, .nilptr), (3, I 0), (5, .ptr (.loc 0) 0), (24, ints o), (25, I o.length), (26, I k), (6, I k), (7, .fp [DI ow]), (8, .ptr (.loc 3) 0)] [.cells true [.ptr (.loc 1) 0], .cells true (wkC W o (.gl (.loc 2) 1 o.length) mn ms), .flat true (R4.flatMap encI), .cells true [.gl (.loc 4) 1 (natI S4).length], .flat true dj] (marks' := []) ?_ ?_
                  · conv => whnf
                    refine Retell.turn ⟨[0, 1, 2, 3, m], gl.length, [], []⟩ (TurnOk.mk' _ _ [] [] (OutOk.lift _) (Nat.ble_eq_true_of_le (by simp)) hmn2 (BTos.cells (blt_of l1) ((key 0 _ (by decide)).trans j1) rfl zw (BTos.cells (blt_of l2) ((key 1 _ (by decide)).trans j2) rfl zw (BTos.flat (blt_of l3) ((key 2 _ (by decide)).trans j3) rfl (BTos.cells (blt_of l4) ((key 3 _ (by decide)).trans j4) rfl zw (BTos.flat (blt_of l5) ((key m _ (by omega)).trans j5) rfl BTos.nil))))) trivial trivial rfl) zw (MkTo.drop hm5 ((key 5 _ (by decide)).trans j7) MkTo.nil)
                  · conv => whnf
                    repeat' (first | ((first | refine zs1 ?_ | refine zs2 ?_ | refine zs3 ?_ | refine zs4 ?_ | refine zs5 ?_); conv => whnf) | ((first | apply zi1 | apply zi2 | apply zi3 | apply zi4 | apply zi5) <;> intro _ <;> first | (exfalso; omega) | contradiction | (conv => whnf)))
                    refine LEnd.intro (N, (R4, S4), dj) ⟨by dsimp only; omega, hE.1, by dsimp only; rw [hE.2]; exact hmu, h7, j6⟩ (by dsimp only; omega) ?_
                    conv => whnf
                    refine Retell.turn ⟨[0,1,2,3,4], 9, [], []⟩ (TurnOk.mk' _ _ [] [] (OutOk.lift _) rfl (by decide) zb trivial trivial rfl) zw zm
      · rw [if_neg hfr] at hAs
        conv => whnf
        repeat' (first | ((first | refine zs1 ?_ | refine zs2 ?_ | refine zs3 ?_ | refine zs4 ?_ | refine zs5 ?_); conv => whnf) | ((first | apply zi1 | apply zi2 | apply zi3 | apply zi4 | apply zi5) <;> intro _ <;> first | (exfalso; omega) | contradiction | (conv => whnf)))
        refine VCut.block 99 ?_
        conv => whnf
        repeat' (first | ((first | refine zs1 ?_ | refine zs2 ?_ | refine zs3 ?_ | refine zs4 ?_ | refine zs5 ?_); conv => whnf) | ((first | apply zi1 | apply zi2 | apply zi3 | apply zi4 | apply zi5) <;> intro _ <;> first | (exfalso; omega) | contradiction | (conv => whnf)) | (refine VAny.ix encI_len k rfl rfl hxo ?_; conv => whnf) | (refine VLd.recc encI_len k 0 rfl rfl rfl hRk (by decide) rfl (ix1 _) ?_; conv => whnf))
        all_goals first
          | (exfalso; omega)
          | (refine LEnd.intro (k + 1) (by omega) (by omega) ?_
             rw [hAs, hR, hmn]
             conv => whnf
             refine Retell.turn ⟨[0,1,2], 9, [], []⟩ (TurnOk.mk' _ _ [] [] (OutOk.lift _) rfl (by decide) zb trivial trivial rfl) zw zm)
    · obtain rfl : k = o.length := by omega
      subst hms
      generalize (A o.length).1 = R at *
      generalize (A o.length).2 = mn at *
      have fl : (R.flatMap encI).length = o.length * 1 := by rw [flat_len encI_len, hopk.1]
      have hRl : R.length = o.length := hopk.1
      conv => whnf
      repeat' (first | ((first | refine zs1 ?_ | refine zs2 ?_ | refine zs3 ?_ | refine zs4 ?_ | refine zs5 ?_); conv => whnf) | ((first | apply zi1 | apply zi2 | apply zi3 | apply zi4 | apply zi5) <;> intro _ <;> first | (exfalso; omega) | contradiction | (conv => whnf)))
      refine VOut.turn ⟨[1], 9, [(2, R.flatMap encI)], []⟩ (loc' := [.cells true (wkC W o (.fs 1 o.length (R.flatMap encI)) mn ms0)]) (r1' := .tuple [.ptr (.loc 0) 0, I 0]) (TurnOk.mk' _ _ [(2, R.flatMap encI)] [] (OutOk.lift _) rfl (by decide) zb zf trivial rfl) zw ?_
      rw [← hRl, show V.fs 1 R.length (R.flatMap encI) = ints R from rfl]
      refine VOut.upd [] [.cells true (wkC W o (ints R) mn ms0)] [0] 9 rfl (by intro p hp; cases hp) (by decide) rfl ?_ ?_ rfl
      · intro k' b' hk'
        cases k' with
        | zero =>
          rw [List.getElem?_cons_zero, Option.some.injEq] at hk'
          subst hk'
          refine ⟨0, rfl, ?_⟩
          rw [List.getElem?_cons_zero]
          congr 1
        | succ k' => simp at hk'
      · intro σ x hx
        have : (V.tuple [.ptr h.fresh 0, I 0]).ren (backR h.loc.length [0] 9) = .tuple [.ptr (.loc 0) 0, I 0] := by simp [V.ren, V.rens, backR, Hp.fresh]
        rw [this]; exact hx
end Go.Proofs.YtajnkenbhmkjaaaGreat

open Go.Vm
open Riv
namespace Go.Proofs.YtajnkenbhmkjaaaGreat
set_option maxRecDepth 20000
set_option maxHeartbeats 4000000

/-! ### Coasts that are right -/
structure COk (c : Cst) : Prop where
  nb : 1 ≤ c.bs.length ∧ c.bs.length ≤ 12
  ni : c.ie.length ≤ 5
  b : ∀ b ∈ c.bs, ((-300 ≤ b.x ∧ b.x ≤ 300) ∧ (-300 ≤ b.y ∧ b.y ≤ 300)) ∧ (0 ≤ b.s ∧ b.s ≤ 4)
  i : ∀ i ∈ c.ie, ((-300 ≤ i.x ∧ i.x ≤ 300) ∧ (-300 ≤ i.y ∧ i.y ≤ 300)) ∧ (0 ≤ i.f ∧ i.f ≤ 2)
  o : ∀ i ∈ c.ie, 0 ≤ i.o ∧ i.o ≤ (c.bs.length : Int) - 1
def okBs (b : Bs) : Bool := knB b.x b.y && decide (0 ≤ b.s ∧ b.s ≤ 4)
def okIe (b : Ie) : Bool := knB b.x b.y && decide (0 ≤ b.f ∧ b.f ≤ 2)
def okOf (n : Nat) (b : Ie) : Bool := decide (0 ≤ b.o ∧ b.o ≤ (n : Int) - 1)
theorem vc_right1 (b : Bs) (h : Hp) : VC Tryz.prog 56 [vBs b] h (B (okBs b)) h := by
  have c1 := fun h => vc_known b.x b.y h
  have c2 := fun h => vc_in b.s 0 4 h
  unfold okBs
  generalize knB b.x b.y = p at *
  generalize decide (0 ≤ b.s ∧ b.s ≤ 4) = q at *
  unfold vPt at c1
  cases p
  · refine VC.body Tryz.func56 rfl Tryz.ntmps56 Tryz.call56 (h.grows_refl) rfl ?_; conv => whnf
    repeat' (first | ((first | refine zs1 ?_ | refine zs2 ?_ | refine zs3 ?_ | refine zs4 ?_ | refine zs5 ?_); conv => whnf) | ((first | apply zi1 | apply zi2 | apply zi3 | apply zi4 | apply zi5) <;> intro _ <;> first | (exfalso; omega) | contradiction | (conv => whnf)) | (refine VCall.intro (c1 _) ?_; conv => whnf) | (refine VCall.intro (c2 _) ?_; conv => whnf))
    all_goals exact VOut.same rfl
  · refine VC.body Tryz.func56 rfl Tryz.ntmps56 Tryz.call56 (h.grows_refl) rfl ?_; conv => whnf
    repeat' (first | ((first | refine zs1 ?_ | refine zs2 ?_ | refine zs3 ?_ | refine zs4 ?_ | refine zs5 ?_); conv => whnf) | ((first | apply zi1 | apply zi2 | apply zi3 | apply zi4 | apply zi5) <;> intro _ <;> first | (exfalso; omega) | contradiction | (conv => whnf)) | (refine VCall.intro (c1 _) ?_; conv => whnf) | (refine VCall.intro (c2 _) ?_; conv => whnf))
    all_goals exact VOut.same rfl
theorem vc_right2 (b : Ie) (h : Hp) : VC Tryz.prog 58 [vIe b] h (B (okIe b)) h := by
  have c1 := fun h => vc_known b.x b.y h
  have c2 := fun h => vc_in b.f 0 2 h
  unfold okIe
  generalize knB b.x b.y = p at *
  generalize decide (0 ≤ b.f ∧ b.f ≤ 2) = q at *
  unfold vPt at c1
  cases p
  · refine VC.body Tryz.func58 rfl Tryz.ntmps58 Tryz.call58 (h.grows_refl) rfl ?_; conv => whnf
    repeat' (first | ((first | refine zs1 ?_ | refine zs2 ?_ | refine zs3 ?_ | refine zs4 ?_ | refine zs5 ?_); conv => whnf) | ((first | apply zi1 | apply zi2 | apply zi3 | apply zi4 | apply zi5) <;> intro _ <;> first | (exfalso; omega) | contradiction | (conv => whnf)) | (refine VCall.intro (c1 _) ?_; conv => whnf) | (refine VCall.intro (c2 _) ?_; conv => whnf))
    all_goals exact VOut.same rfl
  · refine VC.body Tryz.func58 rfl Tryz.ntmps58 Tryz.call58 (h.grows_refl) rfl ?_; conv => whnf
    repeat' (first | ((first | refine zs1 ?_ | refine zs2 ?_ | refine zs3 ?_ | refine zs4 ?_ | refine zs5 ?_); conv => whnf) | ((first | apply zi1 | apply zi2 | apply zi3 | apply zi4 | apply zi5) <;> intro _ <;> first | (exfalso; omega) | contradiction | (conv => whnf)) | (refine VCall.intro (c1 _) ?_; conv => whnf) | (refine VCall.intro (c2 _) ?_; conv => whnf))
    all_goals exact VOut.same rfl
theorem vc_right3 (c : Cst) (b : Ie) (h : Hp) (hn : c.bs.length ≤ 4000000) : VC Tryz.prog 59 [vIe b, .fp (encCt c)] h (B (okOf c.bs.length b)) h := by
  have c2 := fun h => vc_in b.o 0 ((c.bs.length : Int) - 1) h
  unfold okOf
  generalize decide (0 ≤ b.o ∧ b.o ≤ (c.bs.length : Int) - 1) = q at *
  refine VC.body Tryz.func59 rfl Tryz.ntmps59 Tryz.call59 (h.grows_refl) rfl ?_; conv => whnf
  repeat' (first | ((first | refine zs1 ?_ | refine zs2 ?_ | refine zs3 ?_ | refine zs4 ?_ | refine zs5 ?_); conv => whnf) | ((first | apply zi1 | apply zi2 | apply zi3 | apply zi4 | apply zi5) <;> intro _ <;> first | (exfalso; omega) | contradiction | (conv => whnf)) | (refine VCall.intro (c2 _) ?_; conv => whnf))
  exact VOut.same rfl
theorem COk.oks {c : Cst} (o : COk c) : c.bs.all okBs = true ∧ c.ie.all okIe = true ∧ c.ie.all (okOf c.bs.length) = true := by
  refine ⟨List.all_eq_true.2 fun b hb => ?_, List.all_eq_true.2 fun b hb => ?_, List.all_eq_true.2 fun b hb => ?_⟩
  · have := o.b b hb
    unfold okBs knB
    rw [decide_eq_true this.1, decide_eq_true this.2]; rfl
  · have := o.i b hb
    unfold okIe knB
    rw [decide_eq_true this.1, decide_eq_true this.2]; rfl
  · unfold okOf
    exact decide_eq_true (o.o b hb)
theorem vc_right (c : Cst) (h : Hp) (o : COk c) : VC Tryz.prog 35 [vCt c] h (I 0) h := by
  obtain ⟨h1, h2, h3⟩ := o.oks
  have hnb := o.nb
  have hni := o.ni
  have c0 := fun h => vc_in (c.bs.length : Int) 1 12 h
  rw [decide_eq_true (by omega)] at c0
  have c1 := fun h => vc_evB0 c.bs okBs 56 (by omega) (fun x h _ => vc_right1 x h) h
  have c2 := fun h => vc_evE0 c.ie okIe 58 (by omega) (fun x h _ => vc_right2 x h) h
  have c3 := fun h => vc_evE1 c.ie (okOf c.bs.length) 59 (encCt c) (by omega) (fun x h _ => vc_right3 c x h (by omega)) h
  rw [h1] at c1
  rw [h2] at c2
  rw [h3] at c3
  obtain ⟨bs, ie⟩ := c
  dsimp only at *
  show VC Tryz.prog 35 [.agg [bss bs, ies ie]] h (I 0) h
  refine VC.body Tryz.func35 rfl Tryz.ntmps35 Tryz.call35 (h.grows_refl) rfl ?_; conv => whnf
  repeat' (first | ((first | refine zs1 ?_ | refine zs2 ?_ | refine zs3 ?_ | refine zs4 ?_ | refine zs5 ?_); conv => whnf) | ((first | apply zi1 | apply zi2 | apply zi3 | apply zi4 | apply zi5) <;> intro _ <;> first | (exfalso; omega) | contradiction | (conv => whnf)) | (refine VCall.intro (c0 _) ?_; conv => whnf) | (refine VCall.intro (c1 _) ?_; conv => whnf) | (refine VCall.intro (c2 _) ?_; conv => whnf))
  refine VCall.intro (VC.give (args' := [ies ie, .func (.func 59) [] [.fp (encCt ⟨bs, ie⟩)]]) (loc' := [.dead]) [(0, encCt ⟨bs, ie⟩)] [] (OutOk.lift _) zb zf (by exact FmAll.nil) rfl zw (c3 _)) ?_
  conv => whnf
  repeat' (first | ((first | refine zs1 ?_ | refine zs2 ?_ | refine zs3 ?_ | refine zs4 ?_ | refine zs5 ?_); conv => whnf) | ((first | apply zi1 | apply zi2 | apply zi3 | apply zi4 | apply zi5) <;> intro _ <;> first | (exfalso; omega) | contradiction | (conv => whnf)))
  exact VOut.same rfl
/-! ### The sites -/
structure Sit where
  x : Int
  y : Int
  s : Int
def encSt (a : Sit) : List D := [DI a.x, DI a.y, DI a.s]
theorem encSt_len (a : Sit) : (encSt a).length = 3 := rfl
def vSt (a : Sit) : V := .agg [I a.x, I a.y, I a.s]
def sB (b : Bs) : Sit := ⟨2 * b.x, 2 * b.y, b.s⟩
def zBs : Bs := ⟨0, 0, 0⟩
def sI (l : List Bs) (i : Ie) : List Sit := if i.f = 1 then [⟨i.x + (l.getD i.o.toNat zBs).x, i.y + (l.getD i.o.toNat zBs).y, (l.getD i.o.toNat zBs).s⟩] else if i.f = 2 then [⟨2 * i.x, 2 * i.y, (l.getD i.o.toNat zBs).s⟩] else []
def sitesC (c : Cst) : List Sit := c.bs.map sB ++ c.ie.flatMap (sI c.bs)
def encWk (c : Cst) : List D := [.sl 3 c.bs.length (c.bs.flatMap encBs), .sl 4 c.ie.length (c.ie.flatMap encIe), .sl 3 (sitesC c).length ((sitesC c).flatMap encSt)]
def NoCl (l : List Sit) : Prop := ∀ a ∈ l, ∀ b ∈ l, a.x = b.x ∧ a.y = b.y → a.s = b.s
theorem sI_len (l : List Bs) (i : Ie) : (sI l i).length ≤ 1 := by
  unfold sI
  split
  · simp
  · split <;> simp
def isA (c : Cst) (k : Nat) : List Sit := c.bs.map sB ++ (c.ie.take k).flatMap (sI c.bs)
theorem isA_step {c : Cst} {k : Nat} {i : Ie} (h : c.ie[k]? = some i) : isA c (k + 1) = isA c k ++ sI c.bs i := by
  unfold isA
  rw [List.take_add_one, h, List.flatMap_append]
  simp
theorem isA_len (c : Cst) : ∀ k, (isA c k).length ≤ c.bs.length + k
  | 0 => by simp [isA]
  | k + 1 => by
    have ih := isA_len c k
    cases h : c.ie[k]? with
    | none =>
      have : isA c (k + 1) = isA c k := by
        unfold isA
        rw [List.take_add_one, h]; simp
      rw [this]; omega
    | some i =>
      have := sI_len c.bs i
      rw [isA_step h, List.length_append]; omega
theorem top34 : eqTop Tryz.prog 27 = some (Sh.cons 0 1 false Sh.int (Sh.cons 1 1 false Sh.int Sh.nil)) := by kernel_rfl
theorem veqP (a b c d : Int) : vaggeq Tryz.prog .eql 27 (.agg [I a, I b]) (.agg [I c, I d]) = some (B (decide (a = c ∧ b = d))) := by
  have : ((a == c) && ((b == d) && true)) = decide (a = c ∧ b = d) := by
    rw [Bool.eq_iff_iff, decide_eq_true_eq]; simp
  rw [← this]
  unfold vaggeq
  rw [top34]
  rfl
theorem vc_opened (c : Cst) (h : Hp) (o : COk c) (hc : NoCl (sitesC c)) : VC Tryz.prog 36 [vCt c] h (.fp (encWk c)) h := by
  have hnb := o.nb
  have hni := o.ni
  have hob := o.b
  have hoi := o.i
  have hoo := o.o
  have hSl := isA_len c c.ie.length
  have hSe : isA c c.ie.length = sitesC c := by unfold isA sitesC; rw [List.take_of_length_le (Nat.le_refl _)]
  have hIl := fun k => isA_len c k
  have hIs := fun k i h => isA_step (c := c) (k := k) (i := i) h
  have hI0 : isA c 0 = c.bs.map sB := by unfold isA; simp
  unfold encWk
  rw [hSe] at hSl
  generalize isA c = A at *
  generalize sitesC c = S at *
  obtain ⟨bs, ie⟩ := c
  dsimp only at *
  unfold vCt
  refine VC.bodyC 99 Tryz.func36 rfl Tryz.ntmps36 Tryz.call36 (h.grows_refl) rfl ?_
  conv => whnf
  repeat' (first | ((first | refine zs1 ?_ | refine zs2 ?_ | refine zs3 ?_ | refine zs4 ?_ | refine zs5 ?_); conv => whnf) | ((first | apply zi1 | apply zi2 | apply zi3 | apply zi4 | apply zi5) <;> intro _ <;> first | (exfalso; omega) | contradiction | (conv => whnf)))
  refine VCode.lpC (outer := h.lift) (marks := []) 99 (fun k : Nat => [(2, .nilptr), (3, .ptr (.loc 0) 0), (20, bss bs), (21, I bs.length), (22, I k)]) (fun k => [.cells true [bss bs, ies ie, .gl (.loc 1) 3 ((bs.take k).map sB).length], .flat true (((bs.take k).map sB).flatMap encSt)]) (fun k => k ≤ bs.length) (fun k => bs.length - k) 0 (Nat.zero_le _) ?_ ?_
  · conv => whnf
    refine Retell.turn ⟨[1,9], 9, [], []⟩ (TurnOk.mk' _ _ [] [] (OutOk.lift _) rfl (by decide) zb trivial trivial rfl) zw zm
  · intro k hk
    rcases Nat.lt_or_ge k bs.length with h3 | h3
    · have ha : bs[k]? = some bs[k] := List.getElem?_eq_getElem h3
      have hb := hob bs[k] (List.getElem_mem h3)
      have hst : (bs.take (k + 1)).map sB = (bs.take k).map sB ++ [sB bs[k]] := by rw [List.take_add_one, ha, List.map_append]; rfl
      have hl : ((bs.take k).map sB).length = k := by rw [List.length_map, List.length_take]; omega
      generalize bs[k] = b at *
      generalize (bs.take k).map sB = L at *
      conv => whnf
      repeat' (first | ((first | refine zs1 ?_ | refine zs2 ?_ | refine zs3 ?_ | refine zs4 ?_ | refine zs5 ?_); conv => whnf) | ((first | apply zi1 | apply zi2 | apply zi3 | apply zi4 | apply zi5) <;> intro _ <;> first | (exfalso; omega) | contradiction | (conv => whnf)) | (refine VAny.ix encBs_len k rfl rfl ha ?_; conv => whnf))
      refine zs6 [] ?_
      conv => whnf
      repeat' (first | ((first | refine zs1 ?_ | refine zs2 ?_ | refine zs3 ?_ | refine zs4 ?_ | refine zs5 ?_); conv => whnf) | ((first | apply zi1 | apply zi2 | apply zi3 | apply zi4 | apply zi5) <;> intro _ <;> first | (exfalso; omega) | contradiction | (conv => whnf)) | (refine VMem.app1 (l := L) (sB b) encSt_len rfl rfl rfl rfl rfl (by omega) ?_; conv => whnf))
      refine LEnd.intro (k + 1) (by omega) (by omega) ?_
      rw [hst]
      conv => whnf
      rw [List.length_append]
      refine Retell.turn ⟨[0,4], 5, [], []⟩ (TurnOk.mk' _ _ [] [] (OutOk.lift _) rfl (by decide) zb trivial trivial rfl) zw zm
    · obtain rfl : k = bs.length := by omega
      rw [List.take_of_length_le (Nat.le_refl _), ← hI0]
      conv => whnf
      repeat' (first | ((first | refine zs1 ?_ | refine zs2 ?_ | refine zs3 ?_ | refine zs4 ?_ | refine zs5 ?_); conv => whnf) | ((first | apply zi1 | apply zi2 | apply zi3 | apply zi4 | apply zi5) <;> intro _ <;> first | (exfalso; omega) | contradiction | (conv => whnf)))
      refine VCode.lpC (outer := h.lift) (marks := []) 99 (fun k : Nat => [(2, .nilptr), (3, .ptr (.loc 0) 0), (52, ies ie), (53, I ie.length), (54, I k)]) (fun k => [.cells true [bss bs, ies ie, .gl (.loc 1) 3 (A k).length], .flat true ((A k).flatMap encSt)]) (fun k => k ≤ ie.length) (fun k => ie.length - k) 0 (Nat.zero_le _) ?_ ?_
      · conv => whnf
        refine Retell.turn ⟨[0,1], 9, [], []⟩ (TurnOk.mk' _ _ [] [] (OutOk.lift _) rfl (by decide) zb trivial trivial rfl) zw zm
      · intro k hk
        rcases Nat.lt_or_ge k ie.length with h5 | h5
        · have hx : ie[k]? = some ie[k] := List.getElem?_eq_getElem h5
          have hx1 := hoi ie[k] (List.getElem_mem h5)
          have hx2 := hoo ie[k] (List.getElem_mem h5)
          have hst := hIs k _ hx
          generalize ie[k] = i at *
          have hof : bs[i.o.toNat]? = some (bs.getD i.o.toNat zBs) := by rw [List.getD_eq_getElem?_getD, List.getElem?_eq_getElem (by omega)]; rfl
          have hob2 := hob _ (List.mem_of_getElem? hof)
          unfold sI at hst
          generalize bs.getD i.o.toNat zBs = f at *
          have hLl := hIl k
          generalize A k = L at *
          by_cases hf1 : i.f = 1
          · rw [if_pos hf1] at hst
            conv => whnf
            repeat' (first | ((first | refine zs1 ?_ | refine zs2 ?_ | refine zs3 ?_ | refine zs4 ?_ | refine zs5 ?_); conv => whnf) | ((first | apply zi1 | apply zi2 | apply zi3 | apply zi4 | apply zi5) <;> intro _ <;> first | (exfalso; omega) | contradiction | (conv => whnf)) | (refine VAny.ix encIe_len k rfl rfl hx ?_; conv => whnf))
            refine zs6 [] ?_
            conv => whnf
            repeat' (first | ((first | refine zs1 ?_ | refine zs2 ?_ | refine zs3 ?_ | refine zs4 ?_ | refine zs5 ?_); conv => whnf) | ((first | apply zi1 | apply zi2 | apply zi3 | apply zi4 | apply zi5) <;> intro _ <;> first | (exfalso; omega) | contradiction | (conv => whnf)) | (refine VAny.ix encBs_len i.o.toNat (by omega) rfl hof ?_; conv => whnf))
            refine zs6 [] ?_
            conv => whnf
            repeat' (first | ((first | refine zs1 ?_ | refine zs2 ?_ | refine zs3 ?_ | refine zs4 ?_ | refine zs5 ?_); conv => whnf) | ((first | apply zi1 | apply zi2 | apply zi3 | apply zi4 | apply zi5) <;> intro _ <;> first | (exfalso; omega) | contradiction | (conv => whnf)) | (refine VMem.app1 (l := L) (⟨i.x + f.x, i.y + f.y, f.s⟩ : Sit) encSt_len rfl rfl rfl rfl rfl (by omega) ?_; conv => whnf))
            refine LEnd.intro (k + 1) (by omega) (by omega) ?_
            rw [hst]
            conv => whnf
            rw [List.length_append]
            refine Retell.turn ⟨[0,5], 6, [], []⟩ (TurnOk.mk' _ _ [] [] (OutOk.lift _) rfl (by decide) zb trivial trivial rfl) zw zm
          · rw [if_neg hf1] at hst
            by_cases hf2 : i.f = 2
            · rw [if_pos hf2] at hst
              conv => whnf
              repeat' (first | ((first | refine zs1 ?_ | refine zs2 ?_ | refine zs3 ?_ | refine zs4 ?_ | refine zs5 ?_); conv => whnf) | ((first | apply zi1 | apply zi2 | apply zi3 | apply zi4 | apply zi5) <;> intro _ <;> first | (exfalso; omega) | contradiction | (conv => whnf)) | (refine VAny.ix encIe_len k rfl rfl hx ?_; conv => whnf))
              refine zs6 [] ?_
              conv => whnf
              repeat' (first | ((first | refine zs1 ?_ | refine zs2 ?_ | refine zs3 ?_ | refine zs4 ?_ | refine zs5 ?_); conv => whnf) | ((first | apply zi1 | apply zi2 | apply zi3 | apply zi4 | apply zi5) <;> intro _ <;> first | (exfalso; omega) | contradiction | (conv => whnf)) | (refine VAny.ix encBs_len i.o.toNat (by omega) rfl hof ?_; conv => whnf))
              refine zs6 [] ?_
              conv => whnf
              repeat' (first | ((first | refine zs1 ?_ | refine zs2 ?_ | refine zs3 ?_ | refine zs4 ?_ | refine zs5 ?_); conv => whnf) | ((first | apply zi1 | apply zi2 | apply zi3 | apply zi4 | apply zi5) <;> intro _ <;> first | (exfalso; omega) | contradiction | (conv => whnf)) | (refine VMem.app1 (l := L) (⟨2 * i.x, 2 * i.y, f.s⟩ : Sit) encSt_len rfl rfl rfl rfl rfl (by omega) ?_; conv => whnf))
              refine LEnd.intro (k + 1) (by omega) (by omega) ?_
              rw [hst]
              conv => whnf
              rw [List.length_append]
              refine Retell.turn ⟨[0,5], 6, [], []⟩ (TurnOk.mk' _ _ [] [] (OutOk.lift _) rfl (by decide) zb trivial trivial rfl) zw zm
            · rw [if_neg hf2, List.append_nil] at hst
              conv => whnf
              repeat' (first | ((first | refine zs1 ?_ | refine zs2 ?_ | refine zs3 ?_ | refine zs4 ?_ | refine zs5 ?_); conv => whnf) | ((first | apply zi1 | apply zi2 | apply zi3 | apply zi4 | apply zi5) <;> intro _ <;> first | (exfalso; omega) | contradiction | (conv => whnf)) | (refine VAny.ix encIe_len k rfl rfl hx ?_; conv => whnf))
              refine zs6 [] ?_
              conv => whnf
              repeat' (first | ((first | refine zs1 ?_ | refine zs2 ?_ | refine zs3 ?_ | refine zs4 ?_ | refine zs5 ?_); conv => whnf) | ((first | apply zi1 | apply zi2 | apply zi3 | apply zi4 | apply zi5) <;> intro _ <;> first | (exfalso; omega) | contradiction | (conv => whnf)) | (refine VAny.ix encBs_len i.o.toNat (by omega) rfl hof ?_; conv => whnf))
              refine LEnd.intro (k + 1) (by omega) (by omega) ?_
              rw [hst]
              conv => whnf
              refine Retell.turn ⟨[0,1], 6, [], []⟩ (TurnOk.mk' _ _ [] [] (OutOk.lift _) rfl (by decide) zb trivial trivial rfl) zw zm
        · obtain rfl : k = ie.length := by omega
          rw [hSe]
          conv => whnf
          repeat' (first | ((first | refine zs1 ?_ | refine zs2 ?_ | refine zs3 ?_ | refine zs4 ?_ | refine zs5 ?_); conv => whnf) | ((first | apply zi1 | apply zi2 | apply zi3 | apply zi4 | apply zi5) <;> intro _ <;> first | (exfalso; omega) | contradiction | (conv => whnf)))
          refine VCode.lpC (outer := h.lift) (marks := []) 99 (fun k : Nat => [(2, .nilptr), (3, .ptr (.loc 0) 0), (125, .gl (.loc 1) 3 S.length), (126, I S.length), (127, I k)]) (fun k => [.cells true [bss bs, ies ie, .gl (.loc 1) 3 S.length], .flat true (S.flatMap encSt)]) (fun k => k ≤ S.length) (fun k => S.length - k) 0 (Nat.zero_le _) ?_ ?_
          · conv => whnf
            refine Retell.turn ⟨[0,1], 9, [], []⟩ (TurnOk.mk' _ _ [] [] (OutOk.lift _) rfl (by decide) zb trivial trivial rfl) zw zm
          · intro k hk
            rcases Nat.lt_or_ge k S.length with h7 | h7
            · have hx : S[k]? = some S[k] := List.getElem?_eq_getElem h7
              have hm := List.getElem_mem h7
              generalize S[k] = a at *
              conv => whnf
              repeat' (first | ((first | refine zs1 ?_ | refine zs2 ?_ | refine zs3 ?_ | refine zs4 ?_ | refine zs5 ?_); conv => whnf) | ((first | apply zi1 | apply zi2 | apply zi3 | apply zi4 | apply zi5) <;> intro _ <;> first | (exfalso; omega) | contradiction | (conv => whnf)) | (refine VLd.recd encSt_len k rfl rfl rfl rfl hx rfl ?_; conv => whnf) | (refine VAny.intro (v := .gl (.loc 1) 3 k) ⟨by omega, k, by omega, .inl ⟨rfl, rfl⟩⟩ ?_; conv => whnf))
              refine VCode.lpC (outer := h.lift) (marks := []) 99 (fun j : Nat => [(2, .nilptr), (3, .ptr (.loc 0) 0), (125, .gl (.loc 1) 3 S.length), (126, I S.length), (127, I k), (10, .ptr (.loc 2) 0), (137, .gl (.loc 1) 3 k), (138, I k), (139, I j)]) (fun j => [.cells true [bss bs, ies ie, .gl (.loc 1) 3 S.length], .flat true (S.flatMap encSt), .flat true (encSt a)]) (fun j => j ≤ k) (fun j => k - j) 0 (Nat.zero_le _) ?_ ?_
              · conv => whnf
                refine Retell.turn ⟨[0,1,2], 9, [], []⟩ (TurnOk.mk' _ _ [] [] (OutOk.lift _) rfl (by decide) zb trivial trivial rfl) zw zm
              · intro j hj
                rcases Nat.lt_or_ge j k with h9 | h9
                · have hy : S[j]? = some S[j] := List.getElem?_eq_getElem (by omega)
                  have hcl := hc a hm S[j] (List.getElem_mem (by omega))
                  generalize S[j] = b at *
                  by_cases hab : a.x = b.x ∧ a.y = b.y
                  · have hs := hcl hab
                    have hv := veqP a.x a.y b.x b.y
                    rw [decide_eq_true hab] at hv
                    conv => whnf
                    repeat' (first | ((first | refine zs1 ?_ | refine zs2 ?_ | refine zs3 ?_ | refine zs4 ?_ | refine zs5 ?_); conv => whnf) | ((first | apply zi1 | apply zi2 | apply zi3 | apply zi4 | apply zi5) <;> intro _ <;> first | (exfalso; omega) | contradiction | (conv => whnf)) | (refine VLd.recd encSt_len j rfl rfl rfl rfl hy rfl ?_; conv => whnf) | (refine VAgg.intro hv ?_; conv => whnf))
                    refine LEnd.intro (j + 1) (by omega) (by omega) ?_
                    conv => whnf
                    refine Retell.turn ⟨[0,1,2], 9, [], []⟩ (TurnOk.mk' _ _ [] [] (OutOk.lift _) rfl (by decide) zb trivial trivial rfl) zw zm
                  · have hv := veqP a.x a.y b.x b.y
                    rw [decide_eq_false hab] at hv
                    conv => whnf
                    repeat' (first | ((first | refine zs1 ?_ | refine zs2 ?_ | refine zs3 ?_ | refine zs4 ?_ | refine zs5 ?_); conv => whnf) | ((first | apply zi1 | apply zi2 | apply zi3 | apply zi4 | apply zi5) <;> intro _ <;> first | (exfalso; omega) | contradiction | (conv => whnf)) | (refine VLd.recd encSt_len j rfl rfl rfl rfl hy rfl ?_; conv => whnf) | (refine VAgg.intro hv ?_; conv => whnf))
                    refine LEnd.intro (j + 1) (by omega) (by omega) ?_
                    conv => whnf
                    refine Retell.turn ⟨[0,1,2], 9, [], []⟩ (TurnOk.mk' _ _ [] [] (OutOk.lift _) rfl (by decide) zb trivial trivial rfl) zw zm
                · obtain rfl : j = k := by omega
                  conv => whnf
                  repeat' (first | ((first | refine zs1 ?_ | refine zs2 ?_ | refine zs3 ?_ | refine zs4 ?_ | refine zs5 ?_); conv => whnf) | ((first | apply zi1 | apply zi2 | apply zi3 | apply zi4 | apply zi5) <;> intro _ <;> first | (exfalso; omega) | contradiction | (conv => whnf)))
                  refine LEnd.intro (j + 1) (by omega) (by omega) ?_
                  conv => whnf
                  refine Retell.turn ⟨[0,1], 9, [], []⟩ (TurnOk.mk' _ _ [] [] (OutOk.lift _) rfl (by decide) zb trivial trivial rfl) zw zm
            · obtain rfl : k = S.length := by omega
              have fl : (S.flatMap encSt).length = S.length * 3 := flat_len encSt_len _
              conv => whnf
              repeat' (first | ((first | refine zs1 ?_ | refine zs2 ?_ | refine zs3 ?_ | refine zs4 ?_ | refine zs5 ?_); conv => whnf) | ((first | apply zi1 | apply zi2 | apply zi3 | apply zi4 | apply zi5) <;> intro _ <;> first | (exfalso; omega) | contradiction | (conv => whnf)))
              refine VOut.data 9 [(1, S.flatMap encSt), (0, [.sl 3 bs.length (bs.flatMap encBs), .sl 4 ie.length (ie.flatMap encIe), .sl 3 S.length (S.flatMap encSt)])] [] rfl zr (by exact FmAll.nil) zw
end Go.Proofs.YtajnkenbhmkjaaaGreat

namespace Sea
def nrK (f : Nat → Int) : Nat → List Nat × Int
  | 0 => ([], 0)
  | k + 1 => if k = 0 ∨ f k < (nrK f k).2 then ([k], f k) else if f k = (nrK f k).2 then ((nrK f k).1 ++ [k], (nrK f k).2) else nrK f k
structure NrI (f : Nat → Int) (k : Nat) (p : List Nat × Int) : Prop where
  le : ∀ i, i < k → p.2 ≤ f i
  mem : ∀ i, i ∈ p.1 ↔ i < k ∧ f i = p.2
  ne : p.1 ≠ []
theorem nrK_ok (f : Nat → Int) : ∀ k, NrI f (k + 1) (nrK f (k + 1))
  | 0 => by
    rw [nrK, if_pos (.inl rfl)]
    refine ⟨fun i hi => ?_, fun i => ?_, by simp⟩
    · rw [show i = 0 by omega]; exact Int.le_refl _
    · simp only [List.mem_singleton]
      constructor
      · rintro rfl; exact ⟨by omega, rfl⟩
      · rintro ⟨h, _⟩; omega
  | k + 1 => by
    have h := nrK_ok f k
    rw [nrK]
    generalize nrK f (k + 1) = p at *
    split
    · rename_i hc
      have hlt : f (k + 1) < p.2 := by rcases hc with hc | hc; omega; exact hc
      refine ⟨fun i hi => ?_, fun i => ?_, by simp⟩
      · rcases Nat.lt_or_ge i (k + 1) with h1 | h1
        · have := h.le i h1; dsimp only; omega
        · rw [show i = k + 1 by omega]; exact Int.le_refl _
      · simp only [List.mem_singleton]
        constructor
        · rintro rfl; exact ⟨by omega, rfl⟩
        · rintro ⟨h1, h2⟩
          rcases Nat.lt_or_ge i (k + 1) with h3 | h3
          · have := h.le i h3; omega
          · omega
    · rename_i hc
      have hge : p.2 ≤ f (k + 1) := by
        rcases Int.lt_or_le (f (k + 1)) p.2 with h1 | h1
        · exact absurd (.inr h1) hc
        · exact h1
      split
      · rename_i he
        refine ⟨fun i hi => ?_, fun i => ?_, by simp⟩
        · rcases Nat.lt_or_ge i (k + 1) with h1 | h1
          · exact h.le i h1
          · rw [show i = k + 1 by omega]; exact hge
        · rw [List.mem_append, List.mem_singleton, h.mem]
          constructor
          · rintro (⟨h1, h2⟩ | rfl)
            · exact ⟨by omega, h2⟩
            · exact ⟨by omega, he⟩
          · rintro ⟨h1, h2⟩
            rcases Nat.lt_or_ge i (k + 1) with h3 | h3
            · exact .inl ⟨h3, h2⟩
            · exact .inr (by omega)
      · rename_i he
        refine ⟨fun i hi => ?_, fun i => ?_, h.ne⟩
        · rcases Nat.lt_or_ge i (k + 1) with h1 | h1
          · exact h.le i h1
          · rw [show i = k + 1 by omega]; exact hge
        · rw [h.mem]
          constructor
          · rintro ⟨h1, h2⟩; exact ⟨by omega, h2⟩
          · rintro ⟨h1, h2⟩
            rcases Nat.lt_or_ge i (k + 1) with h3 | h3
            · exact ⟨h3, h2⟩
            · rw [show i = k + 1 by omega] at h2; exact absurd h2 he
def oneS (st : Nat → Int) (l : List Nat) : Int := if l.any (fun i => decide (st i ≠ st (l.headD 0))) then -1 else st (l.headD 0)
theorem oneS_all {st : Nat → Int} {l : List Nat} {s : Int} (hl : l ≠ []) (h : ∀ i ∈ l, st i = s) : oneS st l = s := by
  have hd : st (l.headD 0) = s := by
    cases l with
    | nil => exact absurd rfl hl
    | cons a l => exact h a List.mem_cons_self
  unfold oneS
  rw [if_neg, hd]
  rw [List.any_eq_true]
  rintro ⟨i, hi, h2⟩
  rw [decide_eq_true_eq, hd] at h2
  exact h2 (h i hi)
theorem oneS_two {st : Nat → Int} {l : List Nat} {i j : Nat} (hi : i ∈ l) (hj : j ∈ l) (h : st i ≠ st j) : oneS st l = -1 := by
  unfold oneS
  rw [if_pos]
  rw [List.any_eq_true]
  by_cases h1 : st i = st (l.headD 0)
  · exact ⟨j, hj, by rw [decide_eq_true_eq, ← h1]; exact fun e => h e.symm⟩
  · exact ⟨i, hi, by rw [decide_eq_true_eq]; exact h1⟩
theorem whose_two {f st : Nat → Int} {k : Nat} {m0 m1 : Int} {i0 i1 : Nat} (hk : 0 < k) (hst : ∀ i, i < k → st i = 0 ∨ st i = 1) (h0 : i0 < k ∧ st i0 = 0 ∧ f i0 = m0) (h1 : i1 < k ∧ st i1 = 1 ∧ f i1 = m1)
    (l0 : ∀ i, i < k → st i = 0 → m0 ≤ f i) (l1 : ∀ i, i < k → st i = 1 → m1 ≤ f i) : oneS st (nrK f k).1 = if m0 < m1 then 0 else if m1 < m0 then 1 else -1 := by
  obtain ⟨n, rfl⟩ : ∃ n, k = n + 1 := ⟨k - 1, by omega⟩
  have h := nrK_ok f n
  generalize nrK f (n + 1) = p at *
  have a0 := h.le i0 h0.1
  have a1 := h.le i1 h1.1
  rw [h0.2.2] at a0
  rw [h1.2.2] at a1
  have hb : p.2 = m0 ∨ p.2 = m1 := by
    obtain ⟨i, hi⟩ := List.exists_mem_of_ne_nil _ h.ne
    obtain ⟨g1, g2⟩ := (h.mem i).1 hi
    rcases hst i g1 with e | e
    · have := l0 i g1 e; left; omega
    · have := l1 i g1 e; right; omega
  split
  · rename_i hlt
    refine oneS_all h.ne fun i hi => ?_
    obtain ⟨g1, g2⟩ := (h.mem i).1 hi
    rcases hst i g1 with e | e
    · exact e
    · have := l1 i g1 e; omega
  · split
    · rename_i hlt
      refine oneS_all h.ne fun i hi => ?_
      obtain ⟨g1, g2⟩ := (h.mem i).1 hi
      rcases hst i g1 with e | e
      · have := l0 i g1 e; omega
      · exact e
    · exact oneS_two ((h.mem i0).2 ⟨h0.1, by omega⟩) ((h.mem i1).2 ⟨h1.1, by omega⟩) (by rw [h0.2.1, h1.2.1]; decide)
def ds (X Y x y : Int) : Int := (X - 2 * x) * (X - 2 * x) + (Y - 2 * y) * (Y - 2 * y)
theorem sq_nonneg (a : Int) : 0 ≤ a * a := by
  rcases Int.le_total 0 a with h | h
  · exact Int.mul_nonneg h h
  · exact Int.mul_nonneg_of_nonpos_of_nonpos h h
end Sea

open Go.Vm
open Riv
open Sea (nrK oneS ds)
namespace Go.Vm
theorem VMem.appNilGl {P : Program} {α : Type} {enc : α → List D} {t ty : TypeId} {e esz bytes : Nat} {zero : List V} {s_ : Nat} {a_ : Bool} {z_ : V} {h : Hp} {j : Id} {rw : Bool} {K : V → Hp → Prop} (a : α) (hm : ∀ a, (enc a).length = esz) (hTt : tiOf P t = some ⟨.slice e esz bytes zero, s_, a_, z_⟩)
    (hj : h.get j = some (.flat rw (enc a))) (hby : Nat.ble bytes 1048576 = true) (hK : K (.gl h.fresh esz 1) (h.push (.flat true ([a].flatMap enc)))) : VMem P (opAppend #[t, t] ty) [.nilslice, .gl j esz 1] h K :=
  VMem.intro (Vm.appNilX (l2 := [a]) (tiOf_ok P) hTt (by
    simp only [SegOf]
    refine ⟨trivial, rfl, _, rw, (enc a).map D.v, hj, rfl, ?_, ?_⟩
    · rw [List.length_map, hm]; omega
    · rw [List.take_of_length_le (by rw [List.length_map, hm]; omega)]; simp) rfl (mul_bd hby (show 1 ≤ 134217728 by decide)) (show 1 ≤ 4611686018427387904 by decide)) hK
end Go.Vm
namespace Go.Proofs.YtajnkenbhmkjaaaGreat
set_option maxRecDepth 20000
set_option maxHeartbeats 4000000

/-! ### Whose a place is -/
theorem sq_bd {a m : Int} (h : -m ≤ a ∧ a ≤ m) : 0 ≤ a * a ∧ a * a ≤ m * m := by
  refine ⟨Sea.sq_nonneg a, ?_⟩
  rcases Int.le_total 0 a with h1 | h1
  · exact Int.mul_le_mul h.2 h.2 h1 (by omega)
  · rw [← Int.neg_mul_neg a a]
    exact Int.mul_le_mul (by omega) (by omega) (by omega) (by omega)
theorem vc_less (a b c d : Int) (h : Hp) (ha : -1000 ≤ a ∧ a ≤ 1000) (hb : -1000 ≤ b ∧ b ≤ 1000) (hc : -1000 ≤ c ∧ c ≤ 1000) (hd : -1000 ≤ d ∧ d ≤ 1000) : VC Tryz.prog 44 [vPt a b, vPt c d] h (vPt (a - c) (b - d)) h := by
  unfold vPt
  refine VC.body Tryz.func44 rfl Tryz.ntmps44 Tryz.call44 (h.grows_refl) rfl ?_; conv => whnf
  repeat' (first | ((first | refine zs1 ?_ | refine zs2 ?_ | refine zs3 ?_ | refine zs4 ?_ | refine zs5 ?_); conv => whnf) | ((first | apply zi1 | apply zi2 | apply zi3 | apply zi4 | apply zi5) <;> intro _ <;> first | (exfalso; omega) | contradiction | (conv => whnf)))
  exact VOut.same rfl
theorem vc_dot (a b : Int) (h : Hp) (ha : -2000 ≤ a ∧ a ≤ 2000) (hb : -2000 ≤ b ∧ b ≤ 2000) : VC Tryz.prog 45 [vPt a b, vPt a b] h (I (a * a + b * b)) h := by
  have h1 := sq_bd ha
  have h2 := sq_bd hb
  unfold vPt
  refine VC.body Tryz.func45 rfl Tryz.ntmps45 Tryz.call45 (h.grows_refl) rfl ?_; conv => whnf
  repeat' (first | ((first | refine zs1 ?_ | refine zs2 ?_ | refine zs3 ?_ | refine zs4 ?_ | refine zs5 ?_); conv => whnf) | ((first | apply zi1 | apply zi2 | apply zi3 | apply zi4 | apply zi5) <;> intro _ <;> first | (exfalso; omega) | contradiction | (conv => whnf)))
  exact VOut.same rfl
theorem vc_far (a : Sit) (x y : Int) (h : Hp) (ha : -600 ≤ a.x ∧ a.x ≤ 600) (hb : -600 ≤ a.y ∧ a.y ≤ 600) (hx : -300 ≤ x ∧ x ≤ 300) (hy : -300 ≤ y ∧ y ≤ 300) : VC Tryz.prog 43 [vSt a, .fp [DI (2 * x), DI (2 * y)]] h (I (ds a.x a.y x y)) h := by
  have c1 := fun h => vc_less a.x a.y (2 * x) (2 * y) h (by omega) (by omega) (by omega) (by omega)
  have c2 := fun h => vc_dot (a.x - 2 * x) (a.y - 2 * y) h (by omega) (by omega)
  unfold vPt at c1 c2
  rw [show (a.x - 2 * x) * (a.x - 2 * x) + (a.y - 2 * y) * (a.y - 2 * y) = ds a.x a.y x y from rfl] at c2
  generalize ds a.x a.y x y = r at *
  refine VC.body Tryz.func43 rfl Tryz.ntmps43 Tryz.call43 (h.grows_refl) rfl ?_; conv => whnf
  repeat' (first | ((first | refine zs1 ?_ | refine zs2 ?_ | refine zs3 ?_ | refine zs4 ?_ | refine zs5 ?_); conv => whnf) | ((first | apply zi1 | apply zi2 | apply zi3 | apply zi4 | apply zi5) <;> intro _ <;> first | (exfalso; omega) | contradiction | (conv => whnf)) | (refine VCall.intro (c1 _) ?_; conv => whnf) | (refine VCall.intro (c2 _) ?_; conv => whnf))
  exact VOut.same rfl
def dHow (x y : Int) : D := .func (.func 43) [] [.pt [DI (2 * x), DI (2 * y)]]
def vHow (x y : Int) : V := .agg [.func (.func 43) [] [.fp [DI (2 * x), DI (2 * y)]]]
theorem vc_sfrom (x y : Int) (h : Hp) (hx : -300 ≤ x ∧ x ≤ 300) (hy : -300 ≤ y ∧ y ≤ 300) : VC Tryz.prog 27 [vPt x y] h (vHow x y) h := by
  unfold vPt vHow
  refine VC.body Tryz.func27 rfl Tryz.ntmps27 Tryz.call27 (h.grows_refl) rfl ?_; conv => whnf
  repeat' (first | ((first | refine zs1 ?_ | refine zs2 ?_ | refine zs3 ?_ | refine zs4 ?_ | refine zs5 ?_); conv => whnf) | ((first | apply zi1 | apply zi2 | apply zi3 | apply zi4 | apply zi5) <;> intro _ <;> first | (exfalso; omega) | contradiction | (conv => whnf)))
  refine VOut.data 9 [(2, [DI (2 * x), DI (2 * y)])] [] rfl zf (by exact FmAll.nil) zw
def zSt : Sit := ⟨0, 0, 0⟩
def stC (S : List Sit) (i : Nat) : Int := (S.getD i zSt).s
def fC (S : List Sit) (x y : Int) (i : Nat) : Int := ds (S.getD i zSt).x (S.getD i zSt).y x y
def SOk (S : List Sit) : Prop := ∀ a ∈ S, (-600 ≤ a.x ∧ a.x ≤ 600) ∧ (-600 ≤ a.y ∧ a.y ≤ 600) ∧ 0 ≤ a.s ∧ a.s ≤ 4
theorem nrK_sz (f : Nat → Int) : ∀ k, (nrK f k).1.length ≤ k
  | 0 => by simp [nrK]
  | k + 1 => by
    have ih := nrK_sz f k
    rw [nrK]
    split
    · simp
    · split
      · simp; omega
      · omega
def wk (c : Cst) (S : List Sit) : List D := [.sl 3 c.bs.length (c.bs.flatMap encBs), .sl 4 c.ie.length (c.ie.flatMap encIe), .sl 3 S.length (S.flatMap encSt)]
theorem vc_nearest (c : Cst) (S : List Sit) (x y : Int) (h : Hp) (hS : SOk S) (hn : S.length ≤ 4000000) (hx : -300 ≤ x ∧ x ≤ 300) (hy : -300 ≤ y ∧ y ≤ 300) :
    VC Tryz.prog 26 [.fp (wk c S), vHow x y] h (.tuple [ints (natI (nrK (fC S x y) S.length).1), I (nrK (fC S x y) S.length).2]) h := by
  have cF := fun a h ha => vc_far a x y h (hS a ha).1 (hS a ha).2.1 hx hy
  have hsz := nrK_sz (fC S x y)
  have hst : ∀ k, nrK (fC S x y) (k + 1) = _ := fun k => rfl
  have h0 : nrK (fC S x y) 0 = ([], 0) := rfl
  have hfa : ∀ k a, S[k]? = some a → fC S x y k = ds a.x a.y x y := fun k a h => by
    unfold fC; rw [List.getD_eq_getElem?_getD, h]; rfl
  have hst : ∀ k a, S[k]? = some a → nrK (fC S x y) (k + 1) = if k = 0 ∨ ds a.x a.y x y < (nrK (fC S x y) k).2 then ([k], ds a.x a.y x y) else if ds a.x a.y x y = (nrK (fC S x y) k).2 then ((nrK (fC S x y) k).1 ++ [k], (nrK (fC S x y) k).2) else nrK (fC S x y) k := fun k a h => by
    rw [nrK, hfa k a h]
  clear hfa
  obtain ⟨wD, hwD⟩ : ∃ w, w = wk c S := ⟨_, rfl⟩
  generalize nrK (fC S x y) = N at *
  unfold vHow
  obtain ⟨bs, ie⟩ := c
  unfold wk
  dsimp only
  refine VC.bodyC 99 Tryz.func26 rfl Tryz.ntmps26 Tryz.call26 (h.grows_refl) rfl ?_
  conv => whnf
  repeat' (first | ((first | refine zs1 ?_ | refine zs2 ?_ | refine zs3 ?_ | refine zs4 ?_ | refine zs5 ?_); conv => whnf) | ((first | apply zi1 | apply zi2 | apply zi3 | apply zi4 | apply zi5) <;> intro _ <;> first | (exfalso; omega) | contradiction | (conv => whnf)))
  refine VCode.lpC (outer := h.lift) (marks := []) 99 (fun k : Nat => [(3, .fp [dHow x y]), (6, .gl (.loc 0) 1 (natI (N k).1).length), (7, I (N k).2), (14, .fs 3 S.length (S.flatMap encSt)), (15, I S.length), (16, I k)]) (fun k => [.flat true ((natI (N k).1).flatMap encI)]) (fun k => k ≤ S.length) (fun k => S.length - k) 0 (Nat.zero_le _) ?_ ?_
  · rw [h0]
    conv => whnf
    refine Retell.turn ⟨[9], 9, [(0, [dHow x y])], []⟩ (TurnOk.mk' _ _ [(0, [dHow x y])] [] (OutOk.lift _) rfl (by decide) zb zr trivial rfl) zw zm
  · intro k hk
    rcases Nat.lt_or_ge k S.length with h3 | h3
    · have ha : S[k]? = some S[k] := List.getElem?_eq_getElem h3
      have hm := List.getElem_mem h3
      have hs := hst k _ ha
      have cf := fun h => cF S[k] h hm
      have hz := hsz k
      have hnl : (natI (N k).1).length ≤ 4000000 := by rw [natI_len]; omega
      have hap : natI ((N k).1 ++ [k]) = natI (N k).1 ++ [(k : Int)] := by unfold natI; rw [List.map_append]; rfl
      clear hst hsz hk cF
      generalize S[k] = a at *
      generalize ds a.x a.y x y = r at *
      generalize N k = p at *
      obtain ⟨L, q⟩ := p
      dsimp only at *
      by_cases hc : k = 0 ∨ r < q
      · rw [if_pos hc] at hs
        conv => whnf
        repeat' (first | ((first | refine zs1 ?_ | refine zs2 ?_ | refine zs3 ?_ | refine zs4 ?_ | refine zs5 ?_); conv => whnf) | ((first | apply zi1 | apply zi2 | apply zi3 | apply zi4 | apply zi5) <;> intro _ <;> first | (exfalso; omega) | contradiction | (conv => whnf)) | (refine VAny.ix encSt_len k rfl rfl ha ?_; conv => whnf) | (refine VCall.intro (cf _) ?_; conv => whnf) | (refine VMem.appNilGl (k : Int) encI_len rfl rfl rfl ?_; conv => whnf))
        all_goals first
          | (exfalso; omega)
          | (refine LEnd.intro (k + 1) (by omega) (by omega) ?_
             rw [hs]
             conv => whnf
             refine Retell.turn ⟨[3], 9, [], []⟩ (TurnOk.mk' _ _ [] [] (OutOk.lift _) rfl (by decide) zb trivial trivial rfl) zw zm)
      · rw [if_neg hc] at hs
        by_cases he : r = q
        · rw [if_pos he] at hs
          conv => whnf
          repeat' (first | ((first | refine zs1 ?_ | refine zs2 ?_ | refine zs3 ?_ | refine zs4 ?_ | refine zs5 ?_); conv => whnf) | ((first | apply zi1 | apply zi2 | apply zi3 | apply zi4 | apply zi5) <;> intro _ <;> first | (exfalso; omega) | contradiction | (conv => whnf)) | (refine VAny.ix encSt_len k rfl rfl ha ?_; conv => whnf) | (refine VCall.intro (cf _) ?_; conv => whnf) | (refine VMem.app1 (l := natI L) (k : Int) encI_len rfl rfl rfl rfl rfl (by omega) ?_; conv => whnf))
          all_goals first
            | (exfalso; omega)
            | (refine LEnd.intro (k + 1) (by omega) (by omega) ?_
               rw [hs]
               dsimp only
               rw [hap]
               conv => whnf
               rw [List.length_append]
               refine Retell.turn ⟨[3], 9, [], []⟩ (TurnOk.mk' _ _ [] [] (OutOk.lift _) rfl (by decide) zb trivial trivial rfl) zw zm)
        · rw [if_neg he] at hs
          conv => whnf
          repeat' (first | ((first | refine zs1 ?_ | refine zs2 ?_ | refine zs3 ?_ | refine zs4 ?_ | refine zs5 ?_); conv => whnf) | ((first | apply zi1 | apply zi2 | apply zi3 | apply zi4 | apply zi5) <;> intro _ <;> first | (exfalso; omega) | contradiction | (conv => whnf)) | (refine VAny.ix encSt_len k rfl rfl ha ?_; conv => whnf) | (refine VCall.intro (cf _) ?_; conv => whnf))
          all_goals first
            | (exfalso; omega)
            | (refine LEnd.intro (k + 1) (by omega) (by omega) ?_
               rw [hs]
               conv => whnf
               refine Retell.turn ⟨[0], 9, [], []⟩ (TurnOk.mk' _ _ [] [] (OutOk.lift _) rfl (by decide) zb trivial trivial rfl) zw zm)
    · obtain rfl : k = S.length := by omega
      generalize N S.length = p at *
      conv => whnf
      repeat' (first | ((first | refine zs1 ?_ | refine zs2 ?_ | refine zs3 ?_ | refine zs4 ?_ | refine zs5 ?_); conv => whnf) | ((first | apply zi1 | apply zi2 | apply zi3 | apply zi4 | apply zi5) <;> intro _ <;> first | (exfalso; omega) | contradiction | (conv => whnf)))
      refine VOut.data 9 [(0, (natI p.1).flatMap encI)] [] rfl zf (by exact FmAll.nil) zw
end Go.Proofs.YtajnkenbhmkjaaaGreat

open Go.Vm
open Riv
open Sea (nrK oneS ds)
namespace Go.Proofs.YtajnkenbhmkjaaaGreat
set_option maxRecDepth 20000
set_option maxHeartbeats 4000000

theorem vc_one1 (c : Cst) (S : List Sit) (i s : Int) (h : Hp) (hi : 0 ≤ i ∧ i < S.length) (hn : S.length ≤ 4000000) : VC Tryz.prog 47 ([I i] ++ D.vs [.pt [.pt (wk c S)], .pt [DI s]]) h (B (decide (stC S i.toNat ≠ s))) h := by
  have ha : S[i.toNat]? = some S[i.toNat] := List.getElem?_eq_getElem (by omega)
  have e : stC S i.toNat = (S[i.toNat]).s := by unfold stC; rw [List.getD_eq_getElem?_getD, ha]; rfl
  rw [e]
  generalize S[i.toNat] = a at *
  have e2 : (a.s != s) = decide (a.s ≠ s) := by rw [Bool.eq_iff_iff]; simp
  rw [← e2]
  refine VC.body Tryz.func47 rfl Tryz.ntmps47 Tryz.call47 (h.grows_refl) rfl ?_; conv => whnf
  repeat' (first | ((first | refine zs1 ?_ | refine zs2 ?_ | refine zs3 ?_ | refine zs4 ?_ | refine zs5 ?_); conv => whnf) | ((first | apply zi1 | apply zi2 | apply zi3 | apply zi4 | apply zi5) <;> intro _ <;> first | (exfalso; omega) | contradiction | (conv => whnf)))
  refine zs6 [] ?_
  conv => whnf
  repeat' (first | ((first | refine zs1 ?_ | refine zs2 ?_ | refine zs3 ?_ | refine zs4 ?_ | refine zs5 ?_); conv => whnf) | ((first | apply zi1 | apply zi2 | apply zi3 | apply zi4 | apply zi5) <;> intro _ <;> first | (exfalso; omega) | contradiction | (conv => whnf)) | (refine VAny.ix encSt_len i.toNat (by omega) rfl ha ?_; conv => whnf))
  exact VOut.same rfl
theorem vc_one (c : Cst) (S : List Sit) (L : List Nat) (h : Hp) (hL : L ≠ []) (hl : ∀ i ∈ L, i < S.length) (hn : S.length ≤ 4000000) (hm : L.length ≤ 4000000) : VC Tryz.prog 28 [.fp (wk c S), ints (natI L)] h (I (oneS (stC S) L)) h := by
  obtain ⟨i0, L', rfl⟩ : ∃ a l, L = a :: l := by
    cases L with
    | nil => exact absurd rfl hL
    | cons a l => exact ⟨a, l, rfl⟩
  have hi0 := hl i0 List.mem_cons_self
  have ha : S[i0]? = some S[i0] := List.getElem?_eq_getElem hi0
  have e0 : stC S i0 = (S[i0]).s := by unfold stC; rw [List.getD_eq_getElem?_getD, ha]; rfl
  have hx : (natI (i0 :: L'))[0]? = some (i0 : Int) := rfl
  have cC := fun h => vc_coDI (natI (i0 :: L')) (fun i => decide (stC S i.toNat ≠ stC S i0)) 47 [.pt [.pt (wk c S)], .pt [DI (stC S i0)]] (by rw [natI_len]; exact hm) (fun e h he => vc_one1 c S e (stC S i0) h (by
    obtain ⟨n, hn2, rfl⟩ := List.mem_map.1 he
    have := hl n hn2; omega) hn) h
  have eA : ((natI (i0 :: L')).any fun i => decide (stC S i.toNat ≠ stC S i0)) = (i0 :: L').any fun i => decide (stC S i ≠ stC S i0) := by
    unfold natI
    rw [List.any_map]; rfl
  rw [eA] at cC
  have hO : oneS (stC S) (i0 :: L') = if (i0 :: L').any (fun i => decide (stC S i ≠ stC S i0)) then -1 else stC S i0 := rfl
  rw [hO]
  clear hO eA hl hL
  generalize ((i0 :: L').any fun i => decide (stC S i ≠ stC S i0)) = q at *
  rw [e0] at *
  clear e0
  generalize S[i0] = a at *
  obtain ⟨wD, hwD⟩ : ∃ w, w = wk c S := ⟨_, rfl⟩
  obtain ⟨bs, ie⟩ := c
  unfold wk at cC ⊢
  dsimp only at *
  have hln : (natI (i0 :: L')).length ≤ 4000000 := by rw [natI_len]; exact hm
  have hlp : 0 < (natI (i0 :: L')).length := by rw [natI_len]; simp
  generalize natI (i0 :: L') = M at *
  refine VC.bodyC 2 Tryz.func28 rfl Tryz.ntmps28 Tryz.call28 (h.grows_refl) rfl ?_
  conv => whnf
  repeat' (first | ((first | refine zs1 ?_ | refine zs2 ?_ | refine zs3 ?_ | refine zs4 ?_ | refine zs5 ?_); conv => whnf) | ((first | apply zi1 | apply zi2 | apply zi3 | apply zi4 | apply zi5) <;> intro _ <;> first | (exfalso; omega) | contradiction | (conv => whnf)))
  refine zs6 [] ?_
  conv => whnf
  repeat' (first | ((first | refine zs1 ?_ | refine zs2 ?_ | refine zs3 ?_ | refine zs4 ?_ | refine zs5 ?_); conv => whnf) | ((first | apply zi1 | apply zi2 | apply zi3 | apply zi4 | apply zi5) <;> intro _ <;> first | (exfalso; omega) | contradiction | (conv => whnf)) | (refine VAny.ix encI_len 0 rfl rfl hx ?_; conv => whnf) | (refine VAny.ix encSt_len i0 rfl rfl ha ?_; conv => whnf))
  refine VCut.at' (outer := h.lift) (marks := []) 99 [(1, ints M), (2, .fp [.pt [.sl 3 bs.length (bs.flatMap encBs), .sl 4 ie.length (ie.flatMap encIe), .sl 3 S.length (S.flatMap encSt)]]), (5, .fp [DI a.s])] [] ?_ ?_
  · conv => whnf
    refine Retell.turn ⟨[], 9, [(0, [.pt [.sl 3 bs.length (bs.flatMap encBs), .sl 4 ie.length (ie.flatMap encIe), .sl 3 S.length (S.flatMap encSt)]]), (1, [DI a.s])], []⟩ (TurnOk.mk' _ _ [(0, [.pt [.sl 3 bs.length (bs.flatMap encBs), .sl 4 ie.length (ie.flatMap encIe), .sl 3 S.length (S.flatMap encSt)]]), (1, [DI a.s])] [] (OutOk.lift _) rfl (by decide) zb zr trivial rfl) zw zm
  conv => whnf
  repeat' (first | ((first | refine zs1 ?_ | refine zs2 ?_ | refine zs3 ?_ | refine zs4 ?_ | refine zs5 ?_); conv => whnf) | ((first | apply zi1 | apply zi2 | apply zi3 | apply zi4 | apply zi5) <;> intro _ <;> first | (exfalso; omega) | contradiction | (conv => whnf)) | (refine VCall.intro (cC _) ?_; conv => whnf))
  all_goals (rename_i e; subst e; exact VOut.same rfl)
theorem SOk_sites {c : Cst} (o : COk c) : SOk (sitesC c) := by
  intro a ha
  unfold sitesC at ha
  rcases List.mem_append.1 ha with h | h
  · obtain ⟨b, hb, rfl⟩ := List.mem_map.1 h
    have := o.b b hb
    unfold sB; dsimp only; omega
  · obtain ⟨i, hi, h2⟩ := List.mem_flatMap.1 h
    have h3 := o.i i hi
    have h4 := o.o i hi
    have hof : c.bs[i.o.toNat]? = some (c.bs.getD i.o.toNat zBs) := by rw [List.getD_eq_getElem?_getD, List.getElem?_eq_getElem (by omega)]; rfl
    have h5 := o.b _ (List.mem_of_getElem? hof)
    unfold sI at h2
    generalize c.bs.getD i.o.toNat zBs = f at *
    split at h2
    · rw [List.mem_singleton] at h2; subst h2; dsimp only; omega
    · split at h2
      · rw [List.mem_singleton] at h2; subst h2; dsimp only; omega
      · cases h2
theorem sites_len {c : Cst} (o : COk c) : 0 < (sitesC c).length ∧ (sitesC c).length ≤ 17 := by
  have h := isA_len c c.ie.length
  have e : isA c c.ie.length = sitesC c := by unfold isA sitesC; rw [List.take_of_length_le (Nat.le_refl _)]
  have := o.nb
  have := o.ni
  rw [e] at h
  refine ⟨?_, by omega⟩
  unfold sitesC
  rw [List.length_append, List.length_map]; omega
def whC (c : Cst) (x y : Int) : Int := oneS (stC (sitesC c)) (nrK (fC (sitesC c) x y) (sitesC c).length).1
theorem vc_whose (c : Cst) (x y : Int) (h : Hp) (o : COk c) (hx : -300 ≤ x ∧ x ≤ 300) (hy : -300 ≤ y ∧ y ≤ 300) : VC Tryz.prog 13 [.fp (encWk c), vPt x y] h (I (whC c x y)) h := by
  have hs := SOk_sites o
  obtain ⟨hl1, hl2⟩ := sites_len o
  have c1 := fun h => vc_nearest c (sitesC c) x y h hs (by omega) hx hy
  have c0 := fun h => vc_sfrom x y h hx hy
  obtain ⟨n, hn⟩ : ∃ n, (sitesC c).length = n + 1 := ⟨(sitesC c).length - 1, by omega⟩
  have ok := Sea.nrK_ok (fC (sitesC c) x y) n
  rw [← hn] at ok
  have hsz := nrK_sz (fC (sitesC c) x y) (sitesC c).length
  have c2 := fun h => vc_one c (sitesC c) (nrK (fC (sitesC c) x y) (sitesC c).length).1 h ok.ne (fun i hi => ((ok.mem i).1 hi).1) (by omega) (by omega)
  show VC Tryz.prog 13 [.fp (wk c (sitesC c)), vPt x y] h (I (oneS (stC (sitesC c)) (nrK (fC (sitesC c) x y) (sitesC c).length).1)) h
  clear ok hs
  generalize oneS (stC (sitesC c)) (nrK (fC (sitesC c) x y) (sitesC c).length).1 = r at *
  have hnl : (natI (nrK (fC (sitesC c) x y) (sitesC c).length).1).length ≤ 4000000 := by rw [natI_len]; omega
  clear hsz
  generalize natI (nrK (fC (sitesC c) x y) (sitesC c).length).1 = M at *
  generalize (nrK (fC (sitesC c) x y) (sitesC c).length).2 = q at *
  generalize wk c (sitesC c) = W at *
  unfold vPt vHow at *
  refine VC.body Tryz.func13 rfl Tryz.ntmps13 Tryz.call13 (h.grows_refl) rfl ?_; conv => whnf
  repeat' (first | ((first | refine zs1 ?_ | refine zs2 ?_ | refine zs3 ?_ | refine zs4 ?_ | refine zs5 ?_); conv => whnf) | ((first | apply zi1 | apply zi2 | apply zi3 | apply zi4 | apply zi5) <;> intro _ <;> first | (exfalso; omega) | contradiction | (conv => whnf)) | (refine VCall.intro (c0 _) ?_; conv => whnf) | (refine VCall.intro (c1 _) ?_; conv => whnf) | (refine VCall.intro (c2 _) ?_; conv => whnf))
  exact VOut.same rfl
theorem vc_asked (c : Cst) (h : Hp) (o : COk c) (hc : NoCl (sitesC c)) : VC Tryz.prog 16 [vCt c] h (.tuple [.fp (encWk c), I 0]) h := by
  have c0 := fun h => vc_right c h o
  have c1 := fun h => vc_opened c h o hc
  unfold encWk at *
  unfold vCt at *
  refine VC.body Tryz.func16 rfl Tryz.ntmps16 Tryz.call16 (h.grows_refl) rfl ?_; conv => whnf
  repeat' (first | ((first | refine zs1 ?_ | refine zs2 ?_ | refine zs3 ?_ | refine zs4 ?_ | refine zs5 ?_); conv => whnf) | ((first | apply zi1 | apply zi2 | apply zi3 | apply zi4 | apply zi5) <;> intro _ <;> first | (exfalso; omega) | contradiction | (conv => whnf)) | (refine VCall.intro (c0 _) ?_; conv => whnf) | (refine VCall.intro (c1 _) ?_; conv => whnf))
  exact VOut.same rfl
theorem vc_placed (c : Cst) (x y : Int) (h : Hp) (o : COk c) (hc : NoCl (sitesC c)) (hx : -300 ≤ x ∧ x ≤ 300) (hy : -300 ≤ y ∧ y ≤ 300) : VC Tryz.prog 12 [vCt c, vPt x y] h (.tuple [.fp (encWk c), I 0]) h := by
  have c0 := fun h => vc_asked c h o hc
  have c1 := fun h => vc_known x y h
  unfold knB at c1
  rw [decide_eq_true ⟨hx, hy⟩] at c1
  generalize encWk c = W at *
  unfold vCt vPt at *
  refine VC.body Tryz.func12 rfl Tryz.ntmps12 Tryz.call12 (h.grows_refl) rfl ?_; conv => whnf
  repeat' (first | ((first | refine zs1 ?_ | refine zs2 ?_ | refine zs3 ?_ | refine zs4 ?_ | refine zs5 ?_); conv => whnf) | ((first | apply zi1 | apply zi2 | apply zi3 | apply zi4 | apply zi5) <;> intro _ <;> first | (exfalso; omega) | contradiction | (conv => whnf)) | (refine VCall.intro (c0 _) ?_; conv => whnf) | (refine VCall.intro (c1 _) ?_; conv => whnf))
  exact VOut.same rfl
theorem vc_Whose (c : Cst) (x y : Int) (h : Hp) (o : COk c) (hc : NoCl (sitesC c)) (hx : -300 ≤ x ∧ x ≤ 300) (hy : -300 ≤ y ∧ y ≤ 300) : VC Tryz.prog 7 [vCt c, vPt x y] h (.tuple [I (whC c x y), I 0]) h := by
  have c0 := fun h => vc_placed c x y h o hc hx hy
  have c1 := fun h => vc_whose c x y h o hx hy
  generalize whC c x y = r at *
  generalize encWk c = W at *
  unfold vCt vPt at *
  refine VC.body Tryz.func7 rfl Tryz.ntmps7 Tryz.call7 (h.grows_refl) rfl ?_; conv => whnf
  repeat' (first | ((first | refine zs1 ?_ | refine zs2 ?_ | refine zs3 ?_ | refine zs4 ?_ | refine zs5 ?_); conv => whnf) | ((first | apply zi1 | apply zi2 | apply zi3 | apply zi4 | apply zi5) <;> intro _ <;> first | (exfalso; omega) | contradiction | (conv => whnf)) | (refine VCall.intro (c0 _) ?_; conv => whnf) | (refine VCall.intro (c1 _) ?_; conv => whnf))
  exact VOut.same rfl
end Go.Proofs.YtajnkenbhmkjaaaGreat

namespace Riv
theorem Hld.eq {c : List Int} {W : Nat} {s : Int} {T U : List Int} (h : Hld c W s T) (g : Hld c W s U) : T = U := by
  refine ext0 (by rw [h.len, g.len]) fun n hn => ?_
  rw [h.len] at hn
  have h1 := h.low n
  have h2 := g.low n
  rcases Int.lt_or_le (at0 T n) 0 with h3 | h3
  · rcases Int.lt_or_le (at0 U n) 0 with h4 | h4
    · omega
    · have := (h.same g (at0 U n).toNat n hn).2 (by omega)
      omega
  · have := (h.same g (at0 T n).toNat n hn).1 (by omega)
    omega
end Riv

namespace Riv
structure Ren (ren : Int → Int) (s s' : Int) : Prop where
  wat : ∀ x, ren x = 0 ↔ x = 0
  isl : ∀ x, ren x = 3 ↔ x = 3
  sho : ∀ x, ren x = s' ↔ x = s
end Riv

namespace Riv
def stc (f : Nat → Int) (W k : Nat) : List Int := (List.range k).map fun n => f (n % W)
theorem stc_len (f : Nat → Int) (W k : Nat) : (stc f W k).length = k := by simp [stc]
theorem stc_at {f : Nat → Int} {W k n : Nat} (h : n < k) : at0 (stc f W k) n = f (n % W) := by
  unfold at0 stc
  rw [List.getD_eq_getElem?_getD, List.getElem?_map, List.getElem?_range h]; rfl
theorem nb_mod {W n k : Nat} (hW : 2 ≤ W) (h : Nb W n k) : k % W = n % W ∨ k % W + 1 = n % W ∨ k % W = n % W + 1 := by
  rcases h with h | h | ⟨h, h2⟩ | ⟨h, h2⟩
  · subst h; left; rw [Nat.add_mod_right]
  · subst h; left; rw [Nat.add_mod_right]
  · subst h
    have := mod_succ (n := k) hW
    split at this
    · omega
    · right; left; omega
  · subst h
    have := mod_succ (n := n) hW
    split at this
    · omega
    · right; right; omega
theorem nb_left {W n : Nat} (hW : 2 ≤ W) (h : n % W ≠ 0) : Nb W n (n - 1) ∧ (n - 1) % W + 1 = n % W := by
  have h0 : n ≠ 0 := by rintro rfl; exact h (Nat.zero_mod _)
  obtain ⟨m, rfl⟩ : ∃ m, n = m + 1 := ⟨n - 1, by omega⟩
  rw [Nat.add_sub_cancel]
  refine ⟨.inr (.inr (.inl ⟨rfl, h⟩)), ?_⟩
  have := mod_succ (n := m) hW
  split at this
  · omega
  · omega
theorem nb_right {W H n : Nat} (hW : 2 ≤ W) (hn : n < W * H) (h : n % W ≠ W - 1) : Nb W n (n + 1) ∧ (n + 1) % W = n % W + 1 ∧ n + 1 < W * H := by
  have hm := mod_succ (n := n) hW
  rw [if_neg h] at hm
  refine ⟨.inr (.inr (.inr ⟨rfl, by omega⟩)), hm, ?_⟩
  have : n + 1 ≠ W * H := fun e => by
    rw [e, Nat.mul_mod_right] at hm
    omega
  omega
def sk (a b : Nat) (x : Nat) : Int := if x < a then 1 else if b ≤ x then 2 else 0
def s1 (a b : Nat) (x : Nat) : Int := if x < a then 0 else if b ≤ x then -1 else (x : Int) - a + 1
def s2 (a b : Nat) (x : Nat) : Int := if b ≤ x then 0 else if x < a then -1 else (b : Int) - x
structure Stt (W a b : Nat) : Prop where
  fst : 1 ≤ a
  ab : a < b
  lst : b < W
theorem st_one {W H a b : Nat} (S : Stt W a b) : Hld (stc (sk a b) W (W * H)) W 1 (stc (s1 a b) W (W * H)) := by
  have hab := S.ab
  have ha := S.fst
  have hb := S.lst
  have hW : 2 ≤ W := by omega
  refine ⟨by rw [stc_len, stc_len], fun n hn => ?_⟩
  rw [stc_len] at hn
  have kn : at0 (stc (sk a b) W (W * H)) n = sk a b (n % W) := stc_at hn
  have tn : at0 (stc (s1 a b) W (W * H)) n = s1 a b (n % W) := stc_at hn
  refine ⟨fun h => ?_, fun h1 h2 => ?_, fun h1 h2 => ?_⟩
  · rw [kn] at h
    rw [tn]
    unfold sk at h
    unfold s1
    split at h
    · rename_i g; rw [if_pos g]
    · split at h <;> omega
  · unfold Opn at h2
    rw [kn] at h1 h2
    have hx : a ≤ n % W ∧ n % W < b := by
      unfold sk at h1 h2
      split at h1
      · omega
      · split at h2
        · omega
        · omega
    right
    obtain ⟨g1, g2⟩ := nb_left hW (n := n) (by omega)
    have hk : n - 1 < W * H := by omega
    refine ⟨n - 1, by rw [stc_len]; exact hk, g1, ?_, ?_, ?_, fun j hj hnb ht hm => ?_⟩
    · unfold Thr
      rw [stc_at hk]
      unfold sk
      split
      · exact .inr rfl
      · rw [if_neg (by omega)]; exact .inl rfl
    · rw [stc_at hk]
      unfold s1
      split
      · decide
      · rw [if_neg (by omega)]; omega
    · rw [tn, stc_at hk]
      unfold s1
      rw [if_neg (by omega), if_neg (by omega)]
      split
      · omega
      · rw [if_neg (by omega)]; omega
    · rw [stc_len] at hj
      have := nb_mod hW hnb
      rw [stc_at hj] at hm
      rw [stc_at hk, stc_at hj]
      unfold s1 at hm ⊢
      split
      · split
        · omega
        · split <;> omega
      · rw [if_neg (by omega)]
        split
        · omega
        · split <;> omega
  · unfold Opn at h2
    rw [kn] at h1 h2
    rw [tn]
    unfold sk at h1 h2
    unfold s1
    split at h1
    · omega
    · rename_i g
      rw [if_neg g] at h2 ⊢
      split at h2
      · rename_i g2; rw [if_pos g2]
      · omega
theorem st_two {W H a b : Nat} (S : Stt W a b) : Hld (stc (sk a b) W (W * H)) W 2 (stc (s2 a b) W (W * H)) := by
  have hab := S.ab
  have ha := S.fst
  have hb := S.lst
  have hW : 2 ≤ W := by omega
  refine ⟨by rw [stc_len, stc_len], fun n hn => ?_⟩
  rw [stc_len] at hn
  have kn : at0 (stc (sk a b) W (W * H)) n = sk a b (n % W) := stc_at hn
  have tn : at0 (stc (s2 a b) W (W * H)) n = s2 a b (n % W) := stc_at hn
  have hr := Nat.mod_lt n (show 0 < W by omega)
  refine ⟨fun h => ?_, fun h1 h2 => ?_, fun h1 h2 => ?_⟩
  · rw [kn] at h
    rw [tn]
    unfold sk at h
    unfold s2
    split at h
    · omega
    · split at h
      · rename_i g; rw [if_pos g]
      · omega
  · unfold Opn at h2
    rw [kn] at h1 h2
    have hx : a ≤ n % W ∧ n % W < b := by
      unfold sk at h1 h2
      split at h1
      · rename_i g; rw [if_pos g] at h2; omega
      · rename_i g
        rw [if_neg g] at h2
        split at h2
        · omega
        · omega
    right
    obtain ⟨g1, g2, hk⟩ := nb_right hW hn (by omega)
    refine ⟨n + 1, by rw [stc_len]; exact hk, g1, ?_, ?_, ?_, fun j hj hnb ht hm => ?_⟩
    · unfold Thr
      rw [stc_at hk]
      unfold sk
      rw [if_neg (by omega)]
      split
      · exact .inr rfl
      · exact .inl rfl
    · rw [stc_at hk]
      unfold s2
      split
      · decide
      · rw [if_neg (by omega)]; omega
    · rw [tn, stc_at hk]
      unfold s2
      rw [if_neg (by omega), if_neg (by omega)]
      split
      · omega
      · rw [if_neg (by omega)]; omega
    · rw [stc_len] at hj
      have := nb_mod hW hnb
      rw [stc_at hj] at hm
      rw [stc_at hk, stc_at hj]
      unfold s2 at hm ⊢
      split
      · split
        · omega
        · split <;> omega
      · rw [if_neg (by omega)]
        split
        · omega
        · split <;> omega
  · unfold Opn at h2
    rw [kn] at h1 h2
    rw [tn]
    unfold sk at h1 h2
    unfold s2
    by_cases g : n % W < a
    · rw [if_neg (by omega), if_pos g]
    · rw [if_neg g] at h1 h2
      split at h1
      · omega
      · rename_i g2
        rw [if_neg g2] at h2
        omega
end Riv

namespace Riv
theorem st_isl {W H a b : Nat} (S : Stt W a b) (h1 : W * H ≤ 160) : isl (stc (sk a b) W (W * H)) W = [] := by
  have hW : 2 ≤ W := by have := S.fst; have := S.ab; have := S.lst; omega
  have hl := stc_len (sk a b) W (W * H)
  have hN := (rnm_ok (c := stc (sk a b) W (W * H)) hW (by rw [hl]; exact h1)).1
  rw [isl_eq hW hl (by rw [hl]; exact h1)]
  have hf : firsts (stc (sk a b) W (W * H)) W = [] := by
    unfold firsts
    rw [List.filter_eq_nil_iff]
    intro i hi
    rw [List.mem_range, hl] at hi
    have h3 : bat (marks (stc (sk a b) W (W * H))) i = false := by
      rw [bat_marks, stc_at hi]
      refine decide_eq_false ?_
      unfold sk
      split
      · decide
      · split <;> decide
    rw [hN.non i h3]
    simp only [decide_eq_true_eq]
    omega
  rw [hf]; rfl
theorem st_owns {W H a b n : Nat} (S : Stt W a b) (h1 : W * H ≤ 160) (hn : n < W * H) : at0 (owns (stc (sk a b) W (W * H)) W) n = if n % W < a then 1 else if b ≤ n % W then 2 else if (n % W) + (n % W) + 1 = a + b then 3 else if (n % W) + (n % W) + 1 < a + b then 1 else 2 := by
  have hW : 2 ≤ W := by have := S.fst; have := S.ab; have := S.lst; omega
  have hl := stc_len (sk a b) W (W * H)
  unfold owns
  rw [st_isl S h1, List.zip_nil_left, List.foldl_nil, at0_ownW (by rw [hl]; exact hn)]
  rw [← (st_one (H := H) S).eq (bfs_hld hW hl), ← (st_two (H := H) S).eq (bfs_hld hW hl)]
  rw [stc_at hn, stc_at hn, stc_at hn]
  unfold sk s1 s2 ownr
  have hab := S.ab
  by_cases g1 : n % W < a
  · simp [g1]
  · by_cases g2 : b ≤ n % W
    · simp [g1, g2]
    · simp only [g1, g2, if_false, if_true]
      rw [if_neg (by omega)]
      by_cases g3 : n % W + n % W + 1 = a + b
      · rw [if_pos g3, if_pos (by omega)]
      · rw [if_neg g3, if_neg (by omega)]
        by_cases g4 : n % W + n % W + 1 < a + b
        · rw [if_pos g4, if_pos (by omega)]
        · rw [if_neg g4, if_neg (by omega)]
end Riv


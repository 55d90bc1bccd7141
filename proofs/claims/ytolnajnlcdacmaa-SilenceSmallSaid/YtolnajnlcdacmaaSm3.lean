/- Part 3 of the proof that the law SilenceSmall is true: files with each number at its limits and one beyond, small files with all truths, and as many papers as there may be, and one more. No condition.. No condition. -/
import Derived.Test.YtolnajnlcdacmaaSm2
import Derived.Test.YtolnajnlcdacmaaRows
set_option linter.unusedVariables false
set_option linter.unusedSimpArgs false
open Go.Vm
namespace Go.Proofs.Ytolnajnlcdacmaa
set_option maxRecDepth 20000
set_option maxHeartbeats 400000

structure Pap where
  side : Int
  lo : Int
  hi : Int
  deriving DecidableEq
def encP (p : Pap) : List D := [DI p.side, DI p.lo, DI p.hi]
theorem encP_len (p : Pap) : (encP p).length = 3 := rfl
structure Fil where
  Y : Int
  G : Int
  ps : List Pap
def paps (ps : List Pap) : V := .fs 3 ps.length (ps.flatMap encP)
def vF (f : Fil) : V := .agg [I f.Y, I f.G, paps f.ps]
def encF (f : Fil) : List D := [DI f.Y, DI f.G, .sl 3 f.ps.length (f.ps.flatMap encP)]
theorem vc_from (n a b : Int) (h : Hp) : VC Try.prog 57 [I n, I a, I b] h (B (decide (a ≤ n ∧ n ≤ b))) h := by
  refine VC.body Try.func57 rfl Try.ntmps57 Try.call57 (h.grows_refl) rfl ?_; conv => whnf
  repeat' (first | ((first | refine zs1 ?_ | refine zs2 ?_ | refine zs3 ?_ | refine zs4 ?_ | refine zs5 ?_ | refine zs6 [] ?_); conv => whnf) | ((first | apply zi1 | apply zi2 | apply zi3 | apply zi4 | apply zi5) <;> intro _ <;> conv => whnf))
  all_goals (refine VOut.same ?_; simp [V.ren]; try omega)
theorem vc_beside (n a b : Int) (h : Hp) : VC Try.prog 61 [I n, I a, I b] h (B (decide (n < a ∨ b < n))) h := by
  refine VC.body Try.func61 rfl Try.ntmps61 Try.call61 (h.grows_refl) rfl ?_; conv => whnf
  repeat' (first | ((first | refine zs1 ?_ | refine zs2 ?_ | refine zs3 ?_ | refine zs4 ?_ | refine zs5 ?_ | refine zs6 [] ?_); conv => whnf) | ((first | apply zi1 | apply zi2 | apply zi3 | apply zi4 | apply zi5) <;> intro _ <;> conv => whnf))
  all_goals (refine VOut.same ?_; simp [V.ren]; try omega)
def badPap (p : Pap) : Prop := ¬ (p.side = 0 ∨ p.side = 1) ∨ ¬ (0 ≤ p.lo ∧ p.lo ≤ 3000) ∨ ¬ (p.lo ≤ p.hi ∧ p.hi ≤ min 3000 (p.lo + 3))
instance (p : Pap) : Decidable (badPap p) := by unfold badPap; infer_instance
def chkGo : List Pap → Int → Int
  | [], _ => 0
  | p :: r, last => if badPap p then 4 else if p.lo ≤ last then 5 else chkGo r p.hi
def chk (f : Fil) : Int :=
  if ¬ (1 ≤ f.Y ∧ f.Y ≤ 500) ∨ ¬ (1 ≤ f.G ∧ f.G ≤ 200) then 4 else if 16 < f.ps.length then 3 else chkGo f.ps (-1)
theorem chkGo_at {ps : List Pap} {k : Nat} {p : Pap} {last : Int} (h : ps[k]? = some p) : chkGo (ps.drop k) last = if badPap p then 4 else if p.lo ≤ last then 5 else chkGo (ps.drop (k + 1)) p.hi := by
  obtain ⟨hlt, rfl⟩ := List.getElem?_eq_some_iff.1 h
  rw [List.drop_eq_getElem_cons hlt, chkGo]
set_option maxHeartbeats 1000000 in
theorem vc_check (f : Fil) (h : Hp) (hn : f.ps.length ≤ 4000000) : VC Try.prog 34 [vF f] h (I (chk f)) h := by
  refine VC.body Try.func34 rfl Try.ntmps34 Try.call34 (h.grows_refl) rfl ?_; conv => whnf
  repeat' (first | ((first | refine zs1 ?_ | refine zs2 ?_ | refine zs3 ?_ | refine zs4 ?_ | refine zs5 ?_ | refine zs6 [] ?_); conv => whnf) | ((first | apply zi1 | apply zi2 | apply zi3 | apply zi4 | apply zi5) <;> intro _ <;> conv => whnf) | (refine VCall.intro (vc_from _ _ _ _) ?_; conv => whnf))
  · refine VOut.same ?_; simp [V.ren, chk]; omega
  · refine VOut.same ?_; simp [V.ren, chk]; omega
  · refine VOut.same ?_; simp [V.ren, chk]; omega
  · rename_i h1 h2 h3
    have hc : chk f = chkGo f.ps (-1) := by simp [chk]; omega
    refine VCode.lp (fun x : Nat × Int => [(1, .ptr (.loc 0) 0), (2, I 0), (3, I x.2), (23, paps f.ps), (24, I f.ps.length), (25, I x.1)]) (fun _ => [.flat true (encF f)]) (fun x => x.1 ≤ f.ps.length ∧ chkGo f.ps (-1) = chkGo (f.ps.drop x.1) x.2) (fun x => f.ps.length - x.1) (0, -1) (by simp) ?_ ?_
    · conv => whnf
      refine Retell.turn ⟨[0], 1, [], []⟩ (TurnOk.mk' _ _ [] [] (OutOk.lift _) rfl (by decide) zb trivial trivial rfl) zv zm
    · rintro ⟨k, last⟩ ⟨h4, h5⟩
      simp only at h4 h5
      conv => whnf
      refine VIte.dec (fun h6 => ?_) (fun h6 => ?_)
      · have hk : f.ps[k]? = some f.ps[k] := List.getElem?_eq_getElem (by omega)
        generalize f.ps[k] = p at hk
        rw [chkGo_at hk] at h5
        conv => whnf
        refine VAny.ix encP_len k rfl rfl hk ?_
        conv => whnf
        repeat' (first | ((first | refine zs1 ?_ | refine zs2 ?_ | refine zs3 ?_ | refine zs4 ?_ | refine zs5 ?_ | refine zs6 [] ?_); conv => whnf) | ((first | apply zi1 | apply zi2 | apply zi3 | apply zi4 | apply zi5) <;> intro _ <;> conv => whnf) | (refine VCall.intro (vc_from _ _ _ _) ?_; conv => whnf))
        all_goals first
          | (rw [if_pos (by unfold badPap; omega)] at h5; refine VOut.same ?_; simp [V.ren, hc, h5]; done)
          | (rw [if_neg (by unfold badPap; omega), if_pos (by omega)] at h5; refine VOut.same ?_; simp [V.ren, hc, h5]; done)
          | (rw [if_neg (by unfold badPap; omega), if_neg (by omega)] at h5
             refine LEnd.intro (k + 1, p.hi) ⟨by simp only; omega, h5⟩ (by simp only; omega) ?_
             conv => whnf
             refine Retell.turn ⟨[0], 2, [], []⟩ (TurnOk.mk' _ _ [] [] (OutOk.lift _) rfl (by decide) zb trivial trivial rfl) zv zm)
      · conv => whnf
        refine VOut.same ?_
        have : f.ps.length ≤ k := by omega
        rw [List.drop_of_length_le (by omega), chkGo] at h5
        simp [V.ren, hc, h5]
set_option maxHeartbeats 1000000 in
theorem vc_rcheck (f : Fil) (h : Hp) (hn : f.ps.length ≤ 4000000) : VC Try.prog 35 [vF f] h (I (chk f)) h := by
  refine VC.body Try.func35 rfl Try.ntmps35 Try.call35 (h.grows_refl) rfl ?_; conv => whnf
  repeat' (first | ((first | refine zs1 ?_ | refine zs2 ?_ | refine zs3 ?_ | refine zs4 ?_ | refine zs5 ?_ | refine zs6 [] ?_); conv => whnf) | ((first | apply zi1 | apply zi2 | apply zi3 | apply zi4 | apply zi5) <;> intro _ <;> conv => whnf) | (refine VCall.intro (vc_beside _ _ _ _) ?_; conv => whnf))
  · refine VOut.same ?_; simp [V.ren, chk]; omega
  · refine VOut.same ?_; simp [V.ren, chk]; omega
  · refine VOut.same ?_; simp [V.ren, chk]; omega
  · rename_i h1 h2 h3
    have hc : chk f = chkGo f.ps (-1) := by simp [chk]; omega
    refine VCode.lp (fun x : Nat × Int => [(1, .ptr (.loc 0) 0), (2, I 0), (3, I x.1)]) (fun _ => [.flat true (encF f)])
      (fun x => x.1 ≤ f.ps.length ∧ chkGo f.ps (-1) = chkGo (f.ps.drop x.1) x.2 ∧ (x.1 = 0 ∧ x.2 = -1 ∨ ∃ q, 0 < x.1 ∧ f.ps[x.1 - 1]? = some q ∧ q.hi = x.2)) (fun x => f.ps.length - x.1) (0, -1) (by simp) ?_ ?_
    · conv => whnf
      refine Retell.turn ⟨[0], 1, [], []⟩ (TurnOk.mk' _ _ [] [] (OutOk.lift _) rfl (by decide) zb trivial trivial rfl) zv zm
    · rintro ⟨k, last⟩ ⟨h4, h5, h7⟩
      simp only at h4 h5 h7
      conv => whnf
      repeat (first | ((first | refine zs1 ?_ | refine zs2 ?_ | refine zs3 ?_ | refine zs4 ?_ | refine zs5 ?_ | refine zs6 [] ?_); conv => whnf))
      refine VIte.dec (fun h6 => ?_) (fun h6 => ?_)
      · have hk : f.ps[k]? = some f.ps[k] := List.getElem?_eq_getElem (by omega)
        generalize f.ps[k] = p at hk
        rw [chkGo_at hk] at h5
        rcases h7 with ⟨rfl, rfl⟩ | ⟨q, h7, hq, rfl⟩
        all_goals conv => whnf
        all_goals repeat' (first | ((first | refine zs1 ?_ | refine zs2 ?_ | refine zs3 ?_ | refine zs4 ?_ | refine zs5 ?_ | refine zs6 [] ?_); conv => whnf) | ((first | apply zi1 | apply zi2 | apply zi3 | apply zi4 | apply zi5) <;> intro _ <;> conv => whnf) | (refine VCall.intro (vc_beside _ _ _ _) ?_; conv => whnf) | (refine VAny.ix encP_len _ rfl rfl hk ?_; conv => whnf) | (refine VAny.ix encP_len (k - 1) (by simp only; omega) rfl hq ?_; conv => whnf))
        all_goals first
          | (rw [if_pos (by unfold badPap; omega)] at h5; refine VOut.same ?_; simp [V.ren, hc, h5]; done)
          | (rw [if_neg (by unfold badPap; omega), if_pos (by omega)] at h5; refine VOut.same ?_; simp [V.ren, hc, h5]; done)
          | (rw [if_neg (by unfold badPap; omega), if_neg (by omega)] at h5
             refine LEnd.intro (_, p.hi) ⟨by simp only; omega, h5, .inr ⟨p, by simp only; omega, by simpa using hk, rfl⟩⟩ (by simp only; omega) ?_
             conv => whnf
             refine Retell.turn ⟨[0], 2, [], []⟩ (TurnOk.mk' _ _ [] [] (OutOk.lift _) rfl (by decide) zb trivial trivial rfl) zv zm)
      · conv => whnf
        refine VOut.same ?_
        have : f.ps.length ≤ k := by omega
        rw [List.drop_of_length_le (by omega), chkGo] at h5
        simp [V.ren, hc, h5]
end Go.Proofs.Ytolnajnlcdacmaa

open Go.Vm
namespace Go.Proofs.Ytolnajnlcdacmaa
set_option maxRecDepth 20000
set_option maxHeartbeats 1000000

def holdsS : List Pap → List Int → Bool
  | p :: ps, y :: t => decide (p.lo ≤ y ∧ y ≤ p.hi) && holdsS ps t
  | _, _ => true
theorem vc_holds1 (f : Fil) (p : Pap) (i : Nat) (y : Int) (h : Hp) (hp : f.ps[i]? = some p) : VC Try.prog 90 [I i, I y, .fp (encF f)] h (B (decide (p.lo ≤ y ∧ y ≤ p.hi))) h := by
  refine VC.body Try.func90 rfl Try.ntmps90 Try.call90 (h.grows_refl) rfl ?_; conv => whnf
  repeat' (first | ((first | refine zs1 ?_ | refine zs2 ?_ | refine zs3 ?_ | refine zs4 ?_ | refine zs5 ?_ | refine zs6 [] ?_); conv => whnf) | ((first | apply zi1 | apply zi2 | apply zi3 | apply zi4 | apply zi5) <;> intro _ <;> conv => whnf) | (refine VAny.ix encP_len i rfl rfl hp ?_; conv => whnf) | (refine VCall.intro (vc_from _ _ _ _) ?_; conv => whnf))
  all_goals (refine VOut.same ?_; simp [V.ren]; try omega)
def eachS (p : Nat → Int → Bool) : Nat → List Int → Bool
  | _, [] => true
  | i, x :: l => p i x && eachS p (i + 1) l
theorem vc_each (l : List Int) (p : Nat → Int → Bool) (g : FuncId) (caps : List D) (hl : l.length ≤ 4000000) (hso : ∀ (i : Nat) (x : Int) (h : Hp), l[i]? = some x → VC Try.prog g ([I i, I x] ++ D.vs caps) h (B (p i x)) h) (h : Hp) :
    VC Try.prog 79 [ints l, .func (.func g) [] (D.vs caps)] h (B (eachS p 0 l)) h := by
  refine VC.body Try.func79 rfl Try.ntmps79 Try.call79 (h.grows_refl) rfl ?_; conv => whnf
  rw [rens_dvs]
  refine VCode.lp (fun k : Nat => [(1, .func (.func g) [] (D.vs caps)), (4, B false), (7, ints l), (8, I l.length), (9, I k)]) (fun _ => []) (fun k => k ≤ l.length ∧ eachS p 0 l = eachS p k (l.drop k)) (fun k => l.length - k) 0 (by simp) ?_ ?_
  · conv => whnf
    refine Retell.turn ⟨[], 0, [], []⟩ (TurnOk.mk' _ _ [] [] (OutOk.lift _) rfl (by decide) zb trivial trivial rfl) zv zm
  · rintro k ⟨h1, h2⟩
    conv => whnf
    refine VIte.dec (fun h3 => ?_) (fun h3 => ?_)
    · have hk : l[k]? = some l[k] := List.getElem?_eq_getElem (by omega)
      rw [List.drop_eq_getElem_cons (by omega)] at h2
      generalize l[k] = x at hk h2
      simp only [eachS] at h2
      conv => whnf
      refine VAny.ix encI_len k rfl rfl hk ?_
      conv => whnf
      repeat (first | ((first | refine zs1 ?_ | refine zs2 ?_ | refine zs3 ?_ | refine zs4 ?_ | refine zs5 ?_ | refine zs6 [] ?_); conv => whnf))
      refine VCall.intro (hso k x _ hk) ?_
      conv => whnf
      cases hp : p k x
      · conv => whnf
        refine VOut.same ?_
        simp [V.ren, h2, hp]
      · conv => whnf
        repeat (first | ((first | refine zs1 ?_ | refine zs2 ?_ | refine zs3 ?_ | refine zs4 ?_ | refine zs5 ?_ | refine zs6 [] ?_); conv => whnf))
        refine LEnd.intro (k + 1) ⟨by omega, by simpa [hp] using h2⟩ (by omega) ?_
        conv => whnf
        refine Retell.turn ⟨[], 0, [], []⟩ (TurnOk.mk' _ _ [] [] (OutOk.lift _) rfl (by decide) zb trivial trivial rfl) zv zm
    · conv => whnf
      refine VOut.same ?_
      rw [List.drop_of_length_le (by omega), eachS] at h2
      simp [V.ren, h2]
theorem eachS_holds (ps : List Pap) : ∀ (t : List Int) (k : Nat), k + t.length ≤ ps.length → eachS (fun i y => match ps[i]? with | some p => decide (p.lo ≤ y ∧ y ≤ p.hi) | none => false) k t = holdsS (ps.drop k) t
  | [], k, _ => by cases h : ps.drop k <;> simp [eachS, holdsS]
  | y :: t, k, hk => by
    have hlt : k < ps.length := by simp at hk; omega
    rw [List.drop_eq_getElem_cons hlt, eachS, holdsS, List.getElem?_eq_getElem hlt, eachS_holds ps t (k + 1) (by simp at hk; omega)]
theorem vc_holds (f : Fil) (t : List Int) (h : Hp) (hl : t.length ≤ 4000000) (ht : t.length ≤ f.ps.length) : VC Try.prog 73 [vF f, ints t] h (B (holdsS f.ps t)) h := by
  refine VC.body Try.func73 rfl Try.ntmps73 Try.call73 (h.grows_refl) rfl ?_; conv => whnf
  refine VCall.intro (VC.give (args' := [ints t, .func (.func 90) [] [.fp (encF f)]]) (loc' := [.dead]) [(0, encF f)] [] (OutOk.lift _) zb zf (by exact FmAll.nil) rfl zv (vc_each t (fun i y => match f.ps[i]? with | some p => decide (p.lo ≤ y ∧ y ≤ p.hi) | none => false) 90 [.pt (encF f)] hl ?_ _)) ?_
  · intro i x h hx
    obtain ⟨hlt, _⟩ := List.getElem?_eq_some_iff.1 hx
    have hp : f.ps[i]? = some f.ps[i] := List.getElem?_eq_getElem (by omega)
    rw [hp]
    exact vc_holds1 f _ i x h hp
  conv => whnf
  refine VOut.same ?_
  rw [eachS_holds _ _ 0 (by omega)]
  simp [V.ren]
end Go.Proofs.Ytolnajnlcdacmaa

open Go.Vm
namespace Go.Proofs.Ytolnajnlcdacmaa
set_option maxRecDepth 20000
set_option maxHeartbeats 1000000

theorem holdsS_at {ps : List Pap} {t : List Int} {k : Nat} {p : Pap} {y : Int} (hp : ps[k]? = some p) (hy : t[k]? = some y) : holdsS (ps.drop k) (t.drop k) = (decide (p.lo ≤ y ∧ y ≤ p.hi) && holdsS (ps.drop (k + 1)) (t.drop (k + 1))) := by
  obtain ⟨h1, rfl⟩ := List.getElem?_eq_some_iff.1 hp
  obtain ⟨h2, rfl⟩ := List.getElem?_eq_some_iff.1 hy
  rw [List.drop_eq_getElem_cons h1, List.drop_eq_getElem_cons h2, holdsS]
theorem vc_rholds (f : Fil) (t : List Int) (h : Hp) (hl : t.length ≤ 4000000) (ht : t.length ≤ f.ps.length) : VC Try.prog 74 [vF f, ints t] h (B (holdsS f.ps t)) h := by
  refine VC.body Try.func74 rfl Try.ntmps74 Try.call74 (h.grows_refl) rfl ?_; conv => whnf
  refine VCode.lp (fun k : Nat => [(1, ints t), (2, .ptr (.loc 0) 0), (4, B false), (5, I k)]) (fun _ => [.flat true (encF f)]) (fun k => k ≤ t.length ∧ holdsS f.ps t = holdsS (f.ps.drop k) (t.drop k)) (fun k => t.length - k) 0 (by simp) ?_ ?_
  · conv => whnf
    refine Retell.turn ⟨[0], 1, [], []⟩ (TurnOk.mk' _ _ [] [] (OutOk.lift _) rfl (by decide) zb trivial trivial rfl) zv zm
  · rintro k ⟨h1, h2⟩
    conv => whnf
    refine VIte.dec (fun h3 => ?_) (fun h3 => ?_)
    · have hk : t[k]? = some t[k] := List.getElem?_eq_getElem (by omega)
      have hp : f.ps[k]? = some f.ps[k] := List.getElem?_eq_getElem (by omega)
      generalize t[k] = y at hk
      generalize f.ps[k] = p at hp
      rw [holdsS_at hp hk] at h2
      conv => whnf
      repeat' (first | ((first | refine zs1 ?_ | refine zs2 ?_ | refine zs3 ?_ | refine zs4 ?_ | refine zs5 ?_ | refine zs6 [] ?_); conv => whnf) | ((first | apply zi1 | apply zi2 | apply zi3 | apply zi4 | apply zi5) <;> intro _ <;> conv => whnf) | (refine VAny.ix encI_len k rfl rfl hk ?_; conv => whnf) | (refine VAny.ix encP_len k rfl rfl hp ?_; conv => whnf) | (refine VCall.intro (vc_beside _ _ _ _) ?_; conv => whnf))
      · refine VOut.same ?_
        rw [h2, decide_eq_false (by omega)]; rfl
      · refine LEnd.intro (k + 1) ⟨by omega, by rw [h2, decide_eq_true (by omega)]; rfl⟩ (by omega) ?_
        conv => whnf
        refine Retell.turn ⟨[0], 1, [], []⟩ (TurnOk.mk' _ _ [] [] (OutOk.lift _) rfl (by decide) zb trivial trivial rfl) zv zm
    · conv => whnf
      refine VOut.same ?_
      have : t.drop k = [] := List.drop_of_length_le (by omega)
      rw [h2, this]
      cases f.ps.drop k <;> rfl
def hldB (f : Fil) (t : List Int) : Bool := if chk f = 0 ∧ t.length = f.ps.length then holdsS f.ps t else false
def hldE (f : Fil) (t : List Int) : Int := if chk f ≠ 0 then chk f else if t.length ≠ f.ps.length then 3 else 0
theorem vc_Holds (f : Fil) (t : List Int) (h : Hp) (hn : f.ps.length ≤ 4000000) (hl : t.length ≤ 4000000) : VC Try.prog 36 [vF f, ints t] h (.tuple [B (hldB f t), I (hldE f t)]) h := by
  refine VC.body Try.func36 rfl Try.ntmps36 Try.call36 (h.grows_refl) rfl ?_; conv => whnf
  repeat' (first | ((first | refine zs1 ?_ | refine zs2 ?_ | refine zs3 ?_ | refine zs4 ?_ | refine zs5 ?_ | refine zs6 [] ?_); conv => whnf) | ((first | apply zi1 | apply zi2 | apply zi3 | apply zi4 | apply zi5) <;> intro _ <;> conv => whnf) | (refine VCall.intro (vc_check _ _ hn) ?_; conv => whnf))
  · refine VOut.same ?_; simp [V.ren, V.rens, hldB, hldE, *]
  · refine VOut.same ?_
    have : ¬ t.length = f.ps.length := by omega
    simp_all [V.ren, V.rens, hldB, hldE]
  · refine VCall.intro (vc_holds f t _ hl (by omega)) ?_
    conv => whnf
    refine VOut.same ?_
    have : t.length = f.ps.length := by omega
    simp_all [V.ren, V.rens, hldB, hldE]
theorem vc_rHolds (f : Fil) (t : List Int) (h : Hp) (hn : f.ps.length ≤ 4000000) (hl : t.length ≤ 4000000) : VC Try.prog 37 [vF f, ints t] h (.tuple [B (hldB f t), I (hldE f t)]) h := by
  refine VC.body Try.func37 rfl Try.ntmps37 Try.call37 (h.grows_refl) rfl ?_; conv => whnf
  repeat' (first | ((first | refine zs1 ?_ | refine zs2 ?_ | refine zs3 ?_ | refine zs4 ?_ | refine zs5 ?_ | refine zs6 [] ?_); conv => whnf) | ((first | apply zi1 | apply zi2 | apply zi3 | apply zi4 | apply zi5) <;> intro _ <;> conv => whnf) | (refine VCall.intro (vc_rcheck _ _ hn) ?_; conv => whnf))
  · refine VOut.same ?_; simp [V.ren, V.rens, hldB, hldE, *]
  · refine VOut.same ?_
    have : ¬ t.length = f.ps.length := by omega
    simp_all [V.ren, V.rens, hldB, hldE]
  · refine VCall.intro (vc_rholds f t _ hl (by omega)) ?_
    conv => whnf
    refine VOut.same ?_
    have : t.length = f.ps.length := by omega
    simp_all [V.ren, V.rens, hldB, hldE]
def toldE (f : Fil) (t : List Int) : Int := if hldE f t = 0 ∧ hldB f t = false then 9 else hldE f t
theorem vc_Told (f : Fil) (t : List Int) (h : Hp) (hn : f.ps.length ≤ 4000000) (hl : t.length ≤ 4000000) : VC Try.prog 62 [vF f, ints t] h (I (toldE f t)) h := by
  refine VC.body Try.func62 rfl Try.ntmps62 Try.call62 (h.grows_refl) rfl ?_; conv => whnf
  repeat' (first | ((first | refine zs1 ?_ | refine zs2 ?_ | refine zs3 ?_ | refine zs4 ?_ | refine zs5 ?_ | refine zs6 [] ?_); conv => whnf) | ((first | apply zi1 | apply zi2 | apply zi3 | apply zi4 | apply zi5) <;> intro _ <;> conv => whnf) | (refine VCall.intro (vc_rHolds f t _ hn hl) ?_; conv => whnf))
  all_goals (refine VOut.same ?_; simp_all [V.ren, toldE])
def encDk (f : Fil) (t : List Int) : List D := [DI f.Y, DI f.G, .sl 3 f.ps.length (f.ps.flatMap encP), dints t]
theorem vc_begun (f : Fil) (t : List Int) (h : Hp) (hn : f.ps.length ≤ 4000000) (hl : t.length ≤ 4000000) : VC Try.prog 68 [vF f, ints t] h (.tuple [if toldE f t = 0 then .fp (encDk f t) else .nilptr, I (toldE f t)]) h := by
  refine VC.body Try.func68 rfl Try.ntmps68 Try.call68 (h.grows_refl) rfl ?_; conv => whnf
  repeat' (first | ((first | refine zs1 ?_ | refine zs2 ?_ | refine zs3 ?_ | refine zs4 ?_ | refine zs5 ?_ | refine zs6 [] ?_); conv => whnf) | ((first | apply zi1 | apply zi2 | apply zi3 | apply zi4 | apply zi5) <;> intro _ <;> conv => whnf) | (refine VCall.intro (vc_check _ _ hn) ?_; conv => whnf))
  · refine VOut.same ?_; simp_all [V.ren, V.rens, toldE, hldE]
  · refine VOut.same ?_
    have : ¬ t.length = f.ps.length := by omega
    simp_all [V.ren, V.rens, toldE, hldE]
  · refine VCall.intro (vc_holds f t _ hl (by omega)) ?_
    have : t.length = f.ps.length := by omega
    conv => whnf
    cases hb : holdsS f.ps t
    · conv => whnf
      refine VOut.same ?_
      simp_all [V.ren, V.rens, toldE, hldE, hldB]
    · conv => whnf
      have h0 : toldE f t = 0 := by simp_all [toldE, hldE, hldB]
      rw [h0, if_pos rfl]
      repeat (first | ((first | refine zs1 ?_ | refine zs2 ?_ | refine zs3 ?_ | refine zs4 ?_ | refine zs5 ?_ | refine zs6 [] ?_); conv => whnf))
      refine VOut.data 2 [(1, encDk f t)] [] rfl zf (by exact FmAll.nil) zv
theorem chkGo_zero : ∀ {ps : List Pap} {last : Int}, chkGo ps last = 0 → ∀ p ∈ ps, ¬ badPap p
  | [], _, _, p, hp => by cases hp
  | q :: ps, last, h, p, hp => by
    rw [chkGo] at h
    split at h
    · cases h
    · rename_i hb
      split at h
      · cases h
      · rcases List.mem_cons.1 hp with rfl | hp
        · exact hb
        · exact chkGo_zero h p hp
theorem chk_zero {f : Fil} (h : chk f = 0) : (1 ≤ f.Y ∧ f.Y ≤ 500) ∧ (1 ≤ f.G ∧ f.G ≤ 200) ∧ f.ps.length ≤ 16 ∧ chkGo f.ps (-1) = 0 := by
  unfold chk at h
  split at h
  · cases h
  · split at h
    · cases h
    · exact ⟨by omega, by omega, by omega, h⟩
theorem holdsS_get : ∀ {ps : List Pap} {t : List Int} {k : Nat} {p : Pap} {y : Int}, holdsS ps t = true → ps[k]? = some p → t[k]? = some y → p.lo ≤ y ∧ y ≤ p.hi
  | [], _, _, _, _, _, h, _ => by simp at h
  | _ :: _, [], _, _, _, _, _, h => by simp at h
  | q :: ps, x :: t, k, p, y, h, hp, hy => by
    simp only [holdsS, Bool.and_eq_true, decide_eq_true_eq] at h
    cases k with
    | zero => simp at hp hy; subst hp hy; exact h.1
    | succ k => exact holdsS_get h.2 (by simpa using hp) (by simpa using hy)
structure Okt (f : Fil) (t : List Int) : Prop where
  y : 1 ≤ f.Y ∧ f.Y ≤ 500
  g : 1 ≤ f.G ∧ f.G ≤ 200
  n : f.ps.length ≤ 16
  len : t.length = f.ps.length
  go : chkGo f.ps (-1) = 0
  hold : holdsS f.ps t = true
theorem told_ok {f : Fil} {t : List Int} (h : toldE f t = 0) : Okt f t := by
  have h1 : chk f = 0 := by
    by_cases hc : chk f = 0
    · exact hc
    · simp [toldE, hldE, hc] at h
  have h2 : t.length = f.ps.length := by
    by_cases hc : t.length = f.ps.length
    · exact hc
    · simp [toldE, hldE, h1, hc] at h
  obtain ⟨a, b, c, d⟩ := chk_zero h1
  refine ⟨a, b, c, h2, d, ?_⟩
  cases hb : holdsS f.ps t
  · simp [toldE, hldE, hldB, h1, h2, hb] at h
  · rfl
theorem Okt.yr {f : Fil} {t : List Int} (o : Okt f t) {k : Nat} {y : Int} (hy : t[k]? = some y) : 0 ≤ y ∧ y ≤ 3000 := by
  obtain ⟨hlt, _⟩ := List.getElem?_eq_some_iff.1 hy
  have hlt' : k < f.ps.length := by rw [← o.len]; exact hlt
  have hp : f.ps[k]? = some f.ps[k] := List.getElem?_eq_getElem hlt'
  have h1 := holdsS_get o.hold hp hy
  have h2 := chkGo_zero o.go _ (List.mem_of_getElem? hp)
  unfold badPap at h2
  omega
def sdAt (f : Fil) (i : Nat) : Int := match f.ps[i]? with
  | some p => p.side
  | none => 0
def tAt (t : List Int) (i : Nat) : Int := t.getD i 0
theorem tAt_eq {t : List Int} {i : Nat} {y : Int} (h : t[i]? = some y) : tAt t i = y := by simp [tAt, h]
theorem sdAt_eq {f : Fil} {i : Nat} {p : Pap} (h : f.ps[i]? = some p) : sdAt f i = p.side := by simp [sdAt, h]
theorem vc_goes (f : Fil) (i : Nat) (y a : Int) (h : Hp) (hi : i < f.ps.length) (hn : f.ps.length ≤ 4000000) (hy : -1000000 ≤ y ∧ y ≤ 1000000) (ha : -1000000 ≤ a ∧ a ≤ 1000000) :
    VC Try.prog 85 [vF f, I i, I y, I a] h (B (decide (0 < i ∧ sdAt f i = sdAt f (i - 1) ∧ y - a ≤ f.G))) h := by
  have hp : f.ps[i]? = some f.ps[i] := List.getElem?_eq_getElem hi
  have hq : f.ps[i - 1]? = some f.ps[i - 1] := List.getElem?_eq_getElem (by omega)
  rw [sdAt_eq hp, sdAt_eq hq]
  generalize f.ps[i] = p at hp
  generalize f.ps[i - 1] = q at hq
  refine VC.body Try.func85 rfl Try.ntmps85 Try.call85 (h.grows_refl) rfl ?_; conv => whnf
  repeat' (first | ((first | refine zs1 ?_ | refine zs2 ?_ | refine zs3 ?_ | refine zs4 ?_ | refine zs5 ?_ | refine zs6 [] ?_); conv => whnf) | ((first | apply zi1 | apply zi2 | apply zi3 | apply zi4 | apply zi5) <;> intro _ <;> conv => whnf) | (refine VAny.ix encP_len i rfl rfl hp ?_; conv => whnf) | (refine VAny.ix encP_len (i - 1) (by omega) rfl hq ?_; conv => whnf))
  all_goals (refine VOut.dec ?_; first | (simp only [decide_eq_true_eq]; omega) | (simp; omega) | (simp; done))
def bgB (f : Fil) (t : List Int) (i : Nat) : Bool := decide (i = 0 ∨ sdAt f i ≠ sdAt f (i - 1) ∨ f.G < tAt t i - tAt t (i - 1))
theorem vc_begins (f : Fil) (t : List Int) (i : Nat) (h : Hp) (o : Okt f t) (hi : i < t.length) : VC Try.prog 75 [vF f, ints t, I i] h (B (bgB f t i)) h := by
  have hn := o.n
  have hlen := o.len
  have hp : f.ps[i]? = some f.ps[i] := List.getElem?_eq_getElem (by omega)
  have hq : f.ps[i - 1]? = some f.ps[i - 1] := List.getElem?_eq_getElem (by omega)
  have hy : t[i]? = some t[i] := List.getElem?_eq_getElem hi
  have hz : t[i - 1]? = some t[i - 1] := List.getElem?_eq_getElem (by omega)
  unfold bgB
  rw [sdAt_eq hp, sdAt_eq hq, tAt_eq hy, tAt_eq hz]
  have b1 := o.yr hy
  have b2 := o.yr hz
  generalize f.ps[i] = p at hp
  generalize f.ps[i - 1] = q at hq
  generalize t[i] = y at hy b1
  generalize t[i - 1] = z at hz b2
  refine VC.body Try.func75 rfl Try.ntmps75 Try.call75 (h.grows_refl) rfl ?_; conv => whnf
  repeat' (first | ((first | refine zs1 ?_ | refine zs2 ?_ | refine zs3 ?_ | refine zs4 ?_ | refine zs5 ?_ | refine zs6 [] ?_); conv => whnf) | ((first | apply zi1 | apply zi2 | apply zi3 | apply zi4 | apply zi5) <;> intro _ <;> conv => whnf) | (refine VAny.ix encP_len i rfl rfl hp ?_; conv => whnf) | (refine VAny.ix encP_len (i - 1) (by omega) rfl hq ?_; conv => whnf) | (refine VAny.ix encI_len i rfl rfl hy ?_; conv => whnf) | (refine VAny.ix encI_len (i - 1) (by omega) rfl hz ?_; conv => whnf))
  all_goals (refine VOut.dec ?_; first | (simp only [decide_eq_true_eq]; omega) | (simp; omega) | (simp; done))
def fst (f : Fil) (t : List Int) : Nat → Nat
  | 0 => 0
  | i + 1 => if bgB f t (i + 1) then i + 1 else fst f t i
theorem fst_le (f : Fil) (t : List Int) : ∀ i, fst f t i ≤ i
  | 0 => Nat.le_refl _
  | i + 1 => by
    rw [fst]
    split
    · exact Nat.le_refl _
    · exact Nat.le_succ_of_le (fst_le f t i)
theorem vc_first (f : Fil) (t : List Int) (i : Nat) (h : Hp) (o : Okt f t) (hi : i < t.length) : VC Try.prog 78 [vF f, ints t, I i] h (I (fst f t i)) h := by
  have hn := o.n
  have hlen := o.len
  refine VC.body Try.func78 rfl Try.ntmps78 Try.call78 (h.grows_refl) rfl ?_; conv => whnf
  refine VCode.lp (fun k : Nat => [(1, ints t), (2, I k), (3, .ptr (.loc 0) 0), (6, I 0)]) (fun _ => [.flat true (encF f)]) (fun k => k ≤ i ∧ fst f t i = fst f t k) (fun k => k) i ⟨Nat.le_refl _, rfl⟩ ?_ ?_
  · conv => whnf
    refine Retell.turn ⟨[0], 1, [], []⟩ (TurnOk.mk' _ _ [] [] (OutOk.lift _) rfl (by decide) zb trivial trivial rfl) zv zm
  · rintro k ⟨h1, h2⟩
    conv => whnf
    repeat (first | ((first | refine zs1 ?_ | refine zs2 ?_ | refine zs3 ?_ | refine zs4 ?_ | refine zs5 ?_ | refine zs6 [] ?_); conv => whnf))
    refine VCall.intro (vc_begins f t k _ o (by omega)) ?_
    conv => whnf
    cases hb : bgB f t k
    · conv => whnf
      have hk : 0 < k := by
        rcases Nat.eq_zero_or_pos k with rfl | hk
        · simp [bgB] at hb
        · exact hk
      repeat (first | ((first | refine zs1 ?_ | refine zs2 ?_ | refine zs3 ?_ | refine zs4 ?_ | refine zs5 ?_ | refine zs6 [] ?_); conv => whnf))
      refine LEnd.intro (k - 1) ⟨by omega, ?_⟩ (by omega) ?_
      · obtain ⟨j, rfl⟩ : ∃ j, k = j + 1 := ⟨k - 1, by omega⟩
        rw [h2, fst, hb]; rfl
      · conv => whnf
        refine Retell.turn ⟨[0], 1, [], []⟩ (TurnOk.mk' _ _ [] [] (OutOk.lift _) rfl (by decide) zb trivial trivial rfl) zv zm
    · conv => whnf
      refine VOut.same ?_
      have : fst f t k = k := by
        cases k with
        | zero => rfl
        | succ k => rw [fst, hb]; rfl
      simp [V.ren, h2, this]
def arB (f : Fil) (t : List Int) (i : Nat) : Bool := decide (f.Y ≤ tAt t i - tAt t (fst f t i) ∧ tAt t (i - 1) - tAt t (fst f t i) < f.Y)
theorem vc_rarises (f : Fil) (t : List Int) (i : Nat) (h : Hp) (o : Okt f t) (hi : i < t.length) : VC Try.prog 76 [vF f, ints t, I i] h (B (arB f t i)) h := by
  have hn := o.n
  have hlen := o.len
  have hY := o.y
  have hle := fst_le f t i
  have hy : t[i]? = some t[i] := List.getElem?_eq_getElem hi
  have hz : t[i - 1]? = some t[i - 1] := List.getElem?_eq_getElem (by omega)
  have ha : t[fst f t i]? = some t[fst f t i] := List.getElem?_eq_getElem (by omega)
  unfold arB
  rw [tAt_eq hy, tAt_eq hz, tAt_eq ha]
  have b1 := o.yr hy
  have b2 := o.yr hz
  have b3 := o.yr ha
  have hi0 : i = 0 → t[i] = t[fst f t i] := by
    intro h0
    have : fst f t i = i := by omega
    simp only [this]
  generalize t[i] = y at hy b1 hi0
  generalize t[i - 1] = z at hz b2
  generalize t[fst f t i] = a at ha b3 hi0
  refine VC.body Try.func76 rfl Try.ntmps76 Try.call76 (h.grows_refl) rfl ?_; conv => whnf
  repeat' (first | ((first | refine zs1 ?_ | refine zs2 ?_ | refine zs3 ?_ | refine zs4 ?_ | refine zs5 ?_ | refine zs6 [] ?_); conv => whnf) | ((first | apply zi1 | apply zi2 | apply zi3 | apply zi4 | apply zi5) <;> intro _ <;> conv => whnf) | (refine VCall.intro (vc_first f t i _ o hi) ?_; conv => whnf) | (refine VAny.ix encI_len i rfl rfl hy ?_; conv => whnf) | (refine VAny.ix encI_len (fst f t i) rfl rfl ha ?_; conv => whnf) | (refine VAny.ix encI_len (i - 1) (by omega) rfl hz ?_; conv => whnf))
  all_goals (refine VOut.dec ?_; first | (simp only [decide_eq_true_eq]; omega) | (simp; omega) | (simp; done))
end Go.Proofs.Ytolnajnlcdacmaa

open Go.Vm
namespace Go.Proofs.Ytolnajnlcdacmaa
set_option maxRecDepth 20000
set_option maxHeartbeats 1000000

def chS (f : Fil) (t : List Int) : Nat → List Spn
  | 0 => []
  | k + 1 => if bgB f t k then chS f t k ++ [⟨k, k⟩] else match (chS f t k)[(chS f t k).length - 1]? with
    | some s => (chS f t k).set ((chS f t k).length - 1) ⟨s.lo, k⟩
    | none => []
theorem bg0 (f : Fil) (t : List Int) : bgB f t 0 = true := by simp [bgB]
theorem chS_len (f : Fil) (t : List Int) : ∀ k, 0 < (chS f t (k + 1)).length ∧ (chS f t (k + 1)).length ≤ k + 1
  | 0 => by simp [chS, bg0]
  | k + 1 => by
    have ih := chS_len f t k
    rw [chS]
    split
    · simp; omega
    · split
      · simp; omega
      · rename_i h; rw [List.getElem?_eq_none_iff] at h; omega
theorem chS_le (f : Fil) (t : List Int) (k : Nat) : (chS f t k).length ≤ k ∧ (0 < k → 0 < (chS f t k).length) := by
  cases k with
  | zero => simp [chS]
  | succ k => have := chS_len f t k; exact ⟨this.2, fun _ => this.1⟩
theorem vc_begin (l : List Spn) (i : Nat) (ib il : Vm.Id) (h : Hp) (hne : ib ≠ il) (hb : h.get ib = some (.cells true [.gl il 2 l.length])) (hl : h.get il = some (.flat true (l.flatMap encS))) (hn : l.length ≤ 4000000) :
    VC Try.prog 88 [I i, .ptr ib 0] h (.tuple []) ((h.sets [(il, .dead), (ib, .cells true [.gl h.fresh 2 (l.length + 1)])]).pushes [.flat true ((l ++ [Spn.mk i i]).flatMap encS)]) := by
  have hd : ∀ p ∈ [(il, Blk.dead), (ib, Blk.cells true [V.gl h.fresh 2 (l.length + 1)])], h.get p.1 ≠ none := by
    intro p hp
    simp only [List.mem_cons, List.not_mem_nil, or_false] at hp
    rcases hp with rfl | rfl
    · simp only; rw [hl]; simp
    · simp only; rw [hb]; simp
  refine VC.body Try.func88 rfl Try.ntmps88 Try.call88 (Hp.grows_sets hd) rfl ?_; conv => whnf
  refine VLd.cell rfl rfl (get_out hb _) rfl ?_
  conv => whnf
  refine VMem.app1 (Spn.mk i i) encS_len rfl (get_out hl _) rfl rfl rfl (by omega) ?_
  conv => whnf
  refine VMem.st1 rfl rfl rfl (b := .cells true [.gl (.out il) 2 l.length]) (by show (if ib = il then some Blk.dead else h.lift ib) = _; rw [if_neg hne]; exact get_out hb []) rfl ?_
  conv => whnf
  refine VOut.upd [(il, .dead), (ib, .cells true [.gl h.fresh 2 (l.length + 1)])] [.flat true ((l ++ [Spn.mk i i]).flatMap encS)] [1] 2 ?_ hd ?_ ?_ ?_ ?_ ?_
  · rfl
  · decide
  · rfl
  · intro k b hk
    cases k with
    | zero => rw [List.getElem?_cons_zero, Option.some.injEq] at hk; subst hk; exact ⟨1, rfl, rfl⟩
    | succ k => simp at hk
  · intro σ x hx; exact hx
  · have : (Blk.cells true [V.gl h.fresh 2 (l.length + 1)]).ren (backR h.loc.length [1] 2) = .cells true [.gl (.loc 1) 2 (l.length + 1)] := by simp [Blk.ren, V.ren, backR, Hp.fresh]
    simp only [List.map_cons, List.map_nil, this]
    rfl
theorem vc_chains (f : Fil) (t : List Int) (h : Hp) (o : Okt f t) : VC Try.prog 71 [.fp (encDk f t)] h (spans (chS f t t.length)) h := by
  have hn := o.n
  have hlen := o.len
  refine VC.body Try.func71 rfl Try.ntmps71 Try.call71 (h.grows_refl) rfl ?_; conv => whnf
  repeat (first | ((first | refine zs1 ?_ | refine zs2 ?_ | refine zs3 ?_ | refine zs4 ?_ | refine zs5 ?_ | refine zs6 [] ?_); conv => whnf))
  refine VCode.lp (fun k : Nat => [(0, .fp (encDk f t)), (3, .func (.func 85) [vF f] []), (4, .ptr (.loc 0) 0), (5, .func (.func 88) [] [.ptr (.loc 0) 0]), (17, ints t), (18, I t.length), (19, I k)])
    (fun k => [.cells true [.gl (.loc 1) 2 (chS f t k).length], .flat true ((chS f t k).flatMap encS)]) (fun k => k ≤ t.length) (fun k => t.length - k) 0 (Nat.zero_le _) ?_ ?_
  · conv => whnf
    refine Retell.turn ⟨[0,1], 1, [], []⟩ (TurnOk.mk' _ _ [] [] (OutOk.lift _) rfl (by decide) zb trivial trivial rfl) zv zm
  · intro k hk
    conv => whnf
    refine VIte.dec (fun h3 => ?_) (fun h3 => ?_)
    · have hy : t[k]? = some t[k] := List.getElem?_eq_getElem (by omega)
      have hz : t[k - 1]? = some t[k - 1] := List.getElem?_eq_getElem (by omega)
      have b1 := o.yr hy
      have b2 := o.yr hz
      have e1 := tAt_eq hy
      have e2 := tAt_eq hz
      have hcl := chS_le f t k
      generalize t[k] = y at hy b1 e1
      generalize t[k - 1] = z at hz b2 e2
      have hbg : bgB f t k = decide (k = 0 ∨ sdAt f k ≠ sdAt f (k - 1) ∨ f.G < y - z) := by rw [bgB, e1, e2]
      conv => whnf
      repeat' (first | ((first | refine zs1 ?_ | refine zs2 ?_ | refine zs3 ?_ | refine zs4 ?_ | refine zs5 ?_ | refine zs6 [] ?_); conv => whnf) | ((first | apply zi1 | apply zi2 | apply zi3 | apply zi4 | apply zi5) <;> intro _ <;> conv => whnf) | (refine VAny.ix encI_len k rfl rfl hy ?_; conv => whnf) | (refine VAny.ix encI_len (k - 1) (by omega) rfl hz ?_; conv => whnf) | (refine VCall.intro (vc_goes f k y z _ (by omega) (by omega) (by omega) (by omega)) ?_; conv => whnf))
      · rw [decide_eq_false (by omega)] at hbg
        have hs : (chS f t k)[(chS f t k).length - 1]? = some (chS f t k)[(chS f t k).length - 1] := List.getElem?_eq_getElem (by omega)
        generalize (chS f t k)[(chS f t k).length - 1] = s at hs
        have h9 : ((↑(chS f t k).length : Int) - 1).toNat = (chS f t k).length - 1 := by omega
        refine VMem.setRec encS_len ((chS f t k).length - 1) 1 (Spn.mk s.lo k) rfl rfl rfl hs (by decide) rfl (by rw [h9]) ?_
        conv => whnf
        repeat (first | ((first | refine zs1 ?_ | refine zs2 ?_ | refine zs3 ?_ | refine zs4 ?_ | refine zs5 ?_ | refine zs6 [] ?_); conv => whnf))
        have hc : chS f t (k + 1) = (chS f t k).set ((chS f t k).length - 1) ⟨s.lo, k⟩ := by rw [chS, hbg, hs]; rfl
        refine LEnd.intro (k + 1) (by omega) (by omega) ?_
        conv => whnf
        rw [hc, List.length_set]
        refine Retell.turn ⟨[0,1], 2, [], []⟩ (TurnOk.mk' _ _ [] [] (OutOk.lift _) rfl (by decide) zb trivial trivial rfl) zv zm
      all_goals (
        rw [decide_eq_true (by omega)] at hbg
        refine VCall.intro (vc_begin (chS f t k) k (.loc 0) (.loc 1) _ (by decide) rfl rfl (by omega)) ?_
        conv => whnf
        repeat (first | ((first | refine zs1 ?_ | refine zs2 ?_ | refine zs3 ?_ | refine zs4 ?_ | refine zs5 ?_ | refine zs6 [] ?_); conv => whnf))
        have hc : chS f t (k + 1) = chS f t k ++ [⟨k, k⟩] := by rw [chS, hbg]; rfl
        refine LEnd.intro (k + 1) (by omega) (by omega) ?_
        conv => whnf
        rw [hc, List.length_append]
        refine Retell.turn ⟨[0,2], 3, [], []⟩ (TurnOk.mk' _ _ [] [] (OutOk.lift _) rfl (by decide) zb trivial trivial rfl) zv zm)
    · conv => whnf
      have hk' : k = t.length := by omega
      subst hk'
      repeat (first | ((first | refine zs1 ?_ | refine zs2 ?_ | refine zs3 ?_ | refine zs4 ?_ | refine zs5 ?_ | refine zs6 [] ?_); conv => whnf))
      refine VOut.data 2 [(1, (chS f t t.length).flatMap encS)] [] rfl zf (by exact FmAll.nil) zv
def chkChain (Y : Int) (t : List Int) (z hi : Int) (p : Nat) : Nat → Nat → Option Bool
  | 0, _ => none
  | n + 1, i => if (i : Int) ≤ hi then (if Y ≤ tAt t i - z then some (decide (i = p)) else chkChain Y t z hi p n (i + 1)) else none
def chainS (Y : Int) (t : List Int) (p : Nat) : List Spn → Option Spn
  | [] => none
  | s :: r => bif chkChain Y t (tAt t s.lo.toNat) s.hi p (t.length + 1) s.lo.toNat == some true then some s else chainS Y t p r
theorem vc_chain (f : Fil) (t : List Int) (p : Nat) (h : Hp) (o : Okt f t) (hc : ∀ s ∈ chS f t t.length, 0 ≤ s.lo ∧ s.lo ≤ s.hi ∧ s.hi < t.length) : VC Try.prog 87 [.fp (encDk f t), I p] h (match chainS f.Y t p (chS f t t.length) with | some s => .tuple [.agg [I s.lo, I s.hi], B true] | none => .tuple [.agg [I 0, I 0], B false]) h := by
  have hn := o.n
  have hlen := o.len
  have hY := o.y
  have hcl := chS_le f t t.length
  generalize hL : chS f t t.length = L at hc hcl
  refine VC.body Try.func87 rfl Try.ntmps87 Try.call87 (h.grows_refl) rfl ?_; conv => whnf
  refine VCall.intro (vc_chains f t _ o) ?_
  rw [hL]
  conv => whnf
  refine VCode.lp (fun k : Nat => [(0, .fp (encDk f t)), (1, I p), (4, .ptr (.loc 0) 0), (5, B false), (10, spans L), (11, I L.length), (12, I k)]) (fun _ => [.flat true [DI 0, DI 0]]) (fun k => k ≤ L.length ∧ chainS f.Y t p L = chainS f.Y t p (L.drop k)) (fun k => L.length - k) 0 ⟨Nat.zero_le _, rfl⟩ ?_ ?_
  · conv => whnf
    refine Retell.turn ⟨[0], 1, [], []⟩ (TurnOk.mk' _ _ [] [] (OutOk.lift _) rfl (by decide) zb trivial trivial rfl) zv zm
  · rintro k ⟨h1, h2⟩
    conv => whnf
    refine VIte.dec (fun h3 => ?_) (fun h3 => ?_)
    · have hs : L[k]? = some L[k] := List.getElem?_eq_getElem (by omega)
      have hcs := hc L[k] (List.getElem_mem (by omega))
      rw [List.drop_eq_getElem_cons (by omega)] at h2
      generalize L[k] = s at hs hcs h2
      obtain ⟨lo, hi⟩ := s
      simp only at hcs
      obtain ⟨lo, rfl⟩ : ∃ m : Nat, lo = m := ⟨lo.toNat, by omega⟩
      obtain ⟨hi, rfl⟩ : ∃ m : Nat, hi = m := ⟨hi.toNat, by omega⟩
      conv => whnf
      repeat' (first | ((first | refine zs1 ?_ | refine zs2 ?_ | refine zs3 ?_ | refine zs4 ?_ | refine zs5 ?_ | refine zs6 [] ?_); conv => whnf) | ((first | apply zi1 | apply zi2 | apply zi3 | apply zi4 | apply zi5) <;> intro _ <;> conv => whnf) | (refine VAny.ix encS_len k rfl rfl hs ?_; conv => whnf))
      rw [chainS] at h2
      have hz : t[lo]? = some t[lo] := List.getElem?_eq_getElem (by omega)
      have b2 := o.yr hz
      have e2 := tAt_eq hz
      generalize t[lo] = z at hz b2 e2
      simp only [Int.toNat_natCast, e2] at h2
      obtain ⟨C, hC⟩ : ∃ C, C = chkChain f.Y t z hi p (t.length + 1) lo := ⟨_, rfl⟩
      rw [← hC] at h2
      refine VCode.lp (fun j : Nat => [(0, .fp (encDk f t)), (1, I p), (4, .ptr (.loc 0) 0), (5, B false), (7, .ptr (.loc 1) 0), (8, I j), (10, spans L), (11, I L.length), (12, I k)]) (fun _ => [.flat true [DI 0, DI 0], .flat true [DI lo, DI hi]])
        (fun j => lo ≤ j ∧ j ≤ hi + 1 ∧ C = chkChain f.Y t z hi p (t.length + 1 - (j - lo)) j) (fun j => hi + 1 - j) lo ⟨Nat.le_refl _, by omega, by rw [Nat.sub_self]; exact hC⟩ ?_ ?_
      · conv => whnf
        refine Retell.turn ⟨[0,1], 2, [], []⟩ (TurnOk.mk' _ _ [] [] (OutOk.lift _) rfl (by decide) zb trivial trivial rfl) zv zm
      · rintro j ⟨g1, g2, g3⟩
        obtain ⟨m, hm⟩ : ∃ m, t.length + 1 - (j - lo) = m + 1 := ⟨t.length - (j - lo), by omega⟩
        rw [hm, chkChain] at g3
        conv => whnf
        repeat (first | ((first | refine zs1 ?_ | refine zs2 ?_ | refine zs3 ?_ | refine zs4 ?_ | refine zs5 ?_ | refine zs6 [] ?_); conv => whnf))
        refine VIte.dec (fun h4 => ?_) (fun h4 => ?_)
        · have hy : t[j]? = some t[j] := List.getElem?_eq_getElem (by omega)
          have b1 := o.yr hy
          have e1 := tAt_eq hy
          rw [if_pos h4, e1] at g3
          generalize t[j] = y at hy b1 e1 g3
          conv => whnf
          repeat' (first | ((first | refine zs1 ?_ | refine zs2 ?_ | refine zs3 ?_ | refine zs4 ?_ | refine zs5 ?_ | refine zs6 [] ?_); conv => whnf) | ((first | apply zi1 | apply zi2 | apply zi3 | apply zi4 | apply zi5) <;> intro _ <;> conv => whnf) | (refine VAny.ix encI_len j rfl rfl hy ?_; conv => whnf) | (refine VAny.ix encI_len lo rfl rfl hz ?_; conv => whnf))
          · rw [if_pos (by omega), decide_eq_true (by omega)] at g3
            rw [g3, beq_self_eq_true, cond_true] at h2
            rw [h2]
            refine VOut.data 2 [] [] rfl zf (by exact FmAll.nil) zv
          · rw [if_pos (by omega), decide_eq_false (by omega)] at g3
            rw [g3] at h2
            change _ = chainS _ _ _ _ at h2
            refine LEnd.intro (k + 1) ⟨by omega, h2⟩ (by omega) ?_
            conv => whnf
            refine Retell.turn ⟨[0], 2, [], []⟩ (TurnOk.mk' _ _ [] [] (OutOk.lift _) rfl (by decide) zb trivial trivial rfl) zv zm
          · rw [if_neg (by omega)] at g3
            refine LEnd.intro (j + 1) ⟨by omega, by omega, by rw [g3]; congr 1; omega⟩ (by omega) ?_
            conv => whnf
            refine Retell.turn ⟨[0,1], 2, [], []⟩ (TurnOk.mk' _ _ [] [] (OutOk.lift _) rfl (by decide) zb trivial trivial rfl) zv zm
        · rw [if_neg h4] at g3
          rw [g3] at h2
          change _ = chainS _ _ _ _ at h2
          conv => whnf
          repeat (first | ((first | refine zs1 ?_ | refine zs2 ?_ | refine zs3 ?_ | refine zs4 ?_ | refine zs5 ?_ | refine zs6 [] ?_); conv => whnf))
          refine LEnd.intro (k + 1) ⟨by omega, h2⟩ (by omega) ?_
          conv => whnf
          refine Retell.turn ⟨[0], 2, [], []⟩ (TurnOk.mk' _ _ [] [] (OutOk.lift _) rfl (by decide) zb trivial trivial rfl) zv zm
    · conv => whnf
      rw [List.drop_of_length_le (by omega), chainS] at h2
      rw [h2]
      repeat (first | ((first | refine zs1 ?_ | refine zs2 ?_ | refine zs3 ?_ | refine zs4 ?_ | refine zs5 ?_ | refine zs6 [] ?_); conv => whnf))
      refine VOut.data 1 [] [] rfl zf (by exact FmAll.nil) zv
end Go.Proofs.Ytolnajnlcdacmaa

open Go.Vm
namespace Go.Proofs.Ytolnajnlcdacmaa
set_option maxRecDepth 20000
set_option maxHeartbeats 1000000

def chn (f : Fil) (t : List Int) (p : Nat) : Option Spn := chainS f.Y t p (chS f t t.length)
def Segs (f : Fil) (t : List Int) : List Spn → Nat → Nat → Prop
  | [], a, k => a = k
  | s :: r, a, k => ∃ hi : Nat, s = ⟨a, hi⟩ ∧ a ≤ hi ∧ hi < k ∧ bgB f t a = true ∧ (∀ j, a < j → j ≤ hi → bgB f t j = false) ∧ Segs f t r (hi + 1) k
theorem Segs.snoc {f : Fil} {t : List Int} : ∀ {L : List Spn} {a k : Nat}, Segs f t L a k → bgB f t k = true → Segs f t (L ++ [⟨k, k⟩]) a (k + 1)
  | [], a, k, h, hb => by
    simp only [Segs] at h; subst h
    exact ⟨a, rfl, Nat.le_refl _, Nat.lt_succ_self _, hb, fun j h1 h2 => by omega, rfl⟩
  | s :: r, a, k, h, hb => by
    obtain ⟨hi, h1, h2, h3, h4, h5, h6⟩ := h
    exact ⟨hi, h1, h2, by omega, h4, h5, Segs.snoc h6 hb⟩
theorem Segs.more {f : Fil} {t : List Int} : ∀ {L : List Spn} {a k : Nat} {s : Spn}, Segs f t L a k → bgB f t k = false → L[L.length - 1]? = some s → Segs f t (L.set (L.length - 1) ⟨s.lo, k⟩) a (k + 1)
  | [], a, k, s, h, hb, hs => by simp at hs
  | [x], a, k, s, h, hb, hs => by
    obtain ⟨hi, h1, h2, h3, h4, h5, h6⟩ := h
    simp only [Segs] at h6
    simp at hs; subst hs h1
    refine ⟨k, rfl, by omega, by omega, h4, fun j h7 h8 => ?_, rfl⟩
    rcases Nat.lt_or_ge hi j with h9 | h9
    · have : j = k := by omega
      subst this; exact hb
    · exact h5 j h7 h9
  | x :: y :: r, a, k, s, h, hb, hs => by
    obtain ⟨hi, h1, h2, h3, h4, h5, h6⟩ := h
    refine ⟨hi, h1, h2, by omega, h4, h5, ?_⟩
    have := Segs.more (s := s) h6 hb (by simpa using hs)
    simpa using this
theorem chS_segs (f : Fil) (t : List Int) : ∀ k, Segs f t (chS f t k) 0 k
  | 0 => rfl
  | k + 1 => by
    have ih := chS_segs f t k
    rw [chS]
    split
    · rename_i hb; exact ih.snoc hb
    · rename_i hb
      split
      · rename_i s hs; exact ih.more (by simpa using hb) hs
      · rename_i hs
        have := chS_le f t k
        rw [List.getElem?_eq_none_iff] at hs
        have h0 : k = 0 := by omega
        subst h0; simp [bg0] at hb
theorem Segs.bnd {f : Fil} {t : List Int} : ∀ {L : List Spn} {a k : Nat}, Segs f t L a k → ∀ s ∈ L, 0 ≤ s.lo ∧ s.lo ≤ s.hi ∧ s.hi < k
  | [], _, _, _, s, hs => by cases hs
  | x :: r, a, k, h, s, hs => by
    obtain ⟨hi, rfl, h2, h3, h4, h5, h6⟩ := h
    rcases List.mem_cons.1 hs with rfl | hs
    · simp only; omega
    · exact Segs.bnd h6 s hs
theorem Segs.begin {f : Fil} {t : List Int} : ∀ {L : List Spn} {a k : Nat}, Segs f t L a k → a < k → bgB f t a = true
  | [], a, k, h, hk => by simp only [Segs] at h; omega
  | s :: r, a, k, h, hk => by obtain ⟨hi, _, _, _, h4, _⟩ := h; exact h4
theorem chS_bnd (f : Fil) (t : List Int) : ∀ s ∈ chS f t t.length, 0 ≤ s.lo ∧ s.lo ≤ s.hi ∧ s.hi < t.length := (chS_segs f t t.length).bnd
theorem fst_seg {f : Fil} {t : List Int} {a hi : Nat} (hb : bgB f t a = true) (hn : ∀ j, a < j → j ≤ hi → bgB f t j = false) : ∀ j, a ≤ j → j ≤ hi → fst f t j = a
  | 0, h1, _ => by have : a = 0 := by omega
                   rw [fst]; exact this.symm
  | j + 1, h1, h2 => by
    rcases Nat.eq_or_lt_of_le h1 with h3 | h3
    · subst h3; rw [fst, hb]; rfl
    · rw [fst, hn (j + 1) h3 h2]
      exact fst_seg hb hn j (by omega) (by omega)
theorem Okt.next {f : Fil} {t : List Int} (o : Okt f t) {k : Nat} (hk : k + 1 < t.length) : tAt t k < tAt t (k + 1) := by
  have key : ∀ (ps : List Pap) (last : Int) (k : Nat) (p q : Pap), chkGo ps last = 0 → ps[k]? = some p → ps[k + 1]? = some q → p.hi < q.lo := by
    intro ps
    induction ps with
    | nil => intro last k p q _ h; simp at h
    | cons x r ih =>
      intro last k p q hc hp hq
      rw [chkGo] at hc
      split at hc
      · cases hc
      · split at hc
        · cases hc
        · cases k with
          | zero =>
            simp at hp hq; subst hp
            cases r with
            | nil => simp at hq
            | cons y r =>
              simp at hq; subst hq
              rw [chkGo] at hc
              split at hc
              · cases hc
              · split at hc
                · cases hc
                · omega
          | succ k => exact ih x.hi k p q hc (by simpa using hp) (by simpa using hq)
  have hlen := o.len
  have hp : f.ps[k]? = some f.ps[k] := List.getElem?_eq_getElem (by omega)
  have hq : f.ps[k + 1]? = some f.ps[k + 1] := List.getElem?_eq_getElem (by omega)
  have hy : t[k]? = some t[k] := List.getElem?_eq_getElem (by omega)
  have hz : t[k + 1]? = some t[k + 1] := List.getElem?_eq_getElem hk
  have h1 := key _ _ _ _ _ o.go hp hq
  have h2 := holdsS_get o.hold hp hy
  have h3 := holdsS_get o.hold hq hz
  rw [tAt_eq hy, tAt_eq hz]
  omega
theorem Okt.mono {f : Fil} {t : List Int} (o : Okt f t) {a : Nat} : ∀ {b : Nat}, a < b → b < t.length → tAt t a < tAt t b
  | 0, h, _ => by omega
  | b + 1, h, hb => by
    rcases Nat.lt_or_ge a b with h1 | h1
    · have := o.mono h1 (by omega); have := o.next hb; omega
    · have : a = b := by omega
      subst this; exact o.next hb
theorem chkChain_eq {f : Fil} {t : List Int} {z : Int} {hi p : Nat} : ∀ (n i : Nat), hi + 1 - i < n →
    ((chkChain f.Y t z hi p n i == some true) = true ↔ (i ≤ p ∧ p ≤ hi ∧ f.Y ≤ tAt t p - z ∧ (∀ j, i ≤ j → j < p → tAt t j - z < f.Y)))
  | 0, i, hn => by omega
  | n + 1, i, hn => by
    rw [chkChain]
    split
    · rename_i h1
      split
      · rename_i h2
        by_cases h3 : i = p
        · subst h3
          rw [decide_eq_true rfl]
          exact ⟨fun _ => ⟨Nat.le_refl _, by omega, h2, fun j h4 h5 => by omega⟩, fun _ => rfl⟩
        · rw [decide_eq_false h3]
          constructor
          · intro h; cases h
          · rintro ⟨h4, h5, h6, h7⟩
            have := h7 i (Nat.le_refl _) (by omega)
            omega
      · rename_i h2
        rw [chkChain_eq n (i + 1) (by omega)]
        constructor
        · rintro ⟨h4, h5, h6, h7⟩
          refine ⟨by omega, h5, h6, fun j h8 h9 => ?_⟩
          rcases Nat.eq_or_lt_of_le h8 with h10 | h10
          · subst h10; omega
          · exact h7 j h10 h9
        · rintro ⟨h4, h5, h6, h7⟩
          refine ⟨?_, h5, h6, fun j h8 h9 => h7 j (by omega) h9⟩
          rcases Nat.eq_or_lt_of_le h4 with h10 | h10
          · subst h10; omega
          · exact h10
    · rename_i h1
      constructor
      · intro h; cases h
      · rintro ⟨h4, h5, _⟩
        omega
theorem chk_seg {f : Fil} {t : List Int} (o : Okt f t) {a hi p : Nat} (hah : a ≤ hi) (hlt : hi < t.length) (hb : bgB f t a = true) (hn : ∀ j, a < j → j ≤ hi → bgB f t j = false) :
    (chkChain f.Y t (tAt t a) hi p (t.length + 1) a == some true) = (decide (a ≤ p ∧ p ≤ hi) && arB f t p) := by
  have hY := o.y
  have mono : p ≤ hi → ∀ j, a ≤ j → j < p → tAt t j ≤ tAt t (p - 1) := by
    intro hp j h1 h2
    rcases Nat.lt_or_ge j (p - 1) with h3 | h3
    · exact Int.le_of_lt (o.mono h3 (by omega))
    · have : j = p - 1 := by omega
      subst this; exact Int.le_refl _
  rw [Bool.eq_iff_iff, chkChain_eq (t.length + 1) a (by omega), Bool.and_eq_true, decide_eq_true_eq]
  have har : a ≤ p → p ≤ hi → (arB f t p = true ↔ (f.Y ≤ tAt t p - tAt t a ∧ tAt t (p - 1) - tAt t a < f.Y)) := by
    intro h1 h2
    rw [arB, fst_seg hb hn p h1 h2, decide_eq_true_eq]
  constructor
  · rintro ⟨h1, h2, h3, h4⟩
    refine ⟨⟨h1, h2⟩, (har h1 h2).2 ⟨h3, ?_⟩⟩
    rcases Nat.eq_or_lt_of_le h1 with h5 | h5
    · subst h5; omega
    · exact h4 (p - 1) (by omega) (by omega)
  · rintro ⟨⟨h1, h2⟩, h3⟩
    obtain ⟨h3, h4⟩ := (har h1 h2).1 h3
    refine ⟨h1, h2, h3, fun j h5 h6 => ?_⟩
    have := mono h2 j h5 h6
    omega
theorem chainS_eq {f : Fil} {t : List Int} (o : Okt f t) {p : Nat} : ∀ {L : List Spn} {a : Nat}, Segs f t L a t.length →
    (chainS f.Y t p L = none ∧ (arB f t p = false ∨ p < a ∨ t.length ≤ p)) ∨ ∃ hi : Nat, chainS f.Y t p L = some ⟨fst f t p, hi⟩ ∧ arB f t p = true ∧ a ≤ fst f t p ∧ p ≤ hi ∧ hi < t.length ∧ bgB f t (fst f t p) = true ∧ (∀ j, fst f t p < j → j ≤ hi → bgB f t j = false) ∧ (hi + 1 < t.length → bgB f t (hi + 1) = true)
  | [], a, h => by
    simp only [Segs] at h
    left; exact ⟨rfl, by omega⟩
  | s :: r, a, h => by
    obtain ⟨hi, rfl, h2, h3, h4, h5, h6⟩ := h
    have hc := chk_seg (p := p) o h2 h3 h4 h5
    rw [chainS]
    simp only [Int.toNat_natCast]
    rw [hc]
    by_cases hp : a ≤ p ∧ p ≤ hi
    · rw [decide_eq_true hp, Bool.true_and]
      cases ha : arB f t p
      · rw [cond_false]
        rcases chainS_eq o h6 with h7 | ⟨hi', h7, h8, _⟩
        · left; exact ⟨h7.1, .inl rfl⟩
        · rw [ha] at h8; cases h8
      · rw [cond_true]
        right
        have hf := fst_seg h4 h5 p hp.1 hp.2
        rw [hf]
        exact ⟨hi, rfl, rfl, Nat.le_refl _, hp.2, h3, h4, h5, h6.begin⟩
    · rw [decide_eq_false hp, Bool.false_and, cond_false]
      rcases chainS_eq o h6 with ⟨h7, h8⟩ | ⟨hi', h7, h8, h9, h10⟩
      · left
        refine ⟨h7, ?_⟩
        rcases h8 with h8 | h8 | h8
        · exact .inl h8
        · right; left; omega
        · right; right; exact h8
      · right; exact ⟨hi', h7, h8, by omega, h10⟩
theorem chn_none {f : Fil} {t : List Int} (o : Okt f t) {p : Nat} (hp : p < t.length) (ha : arB f t p = false) : chn f t p = none := by
  rcases chainS_eq o (p := p) (chS_segs f t t.length) with ⟨h, _⟩ | ⟨_, _, h, _⟩
  · exact h
  · rw [ha] at h; cases h
theorem chn_some {f : Fil} {t : List Int} (o : Okt f t) {p : Nat} (hp : p < t.length) (ha : arB f t p = true) : ∃ hi : Nat, chn f t p = some ⟨fst f t p, hi⟩ ∧ p ≤ hi ∧ hi < t.length ∧ bgB f t (fst f t p) = true ∧ (∀ j, fst f t p < j → j ≤ hi → bgB f t j = false) ∧ (hi + 1 < t.length → bgB f t (hi + 1) = true) := by
  rcases chainS_eq o (p := p) (chS_segs f t t.length) with ⟨_, h⟩ | ⟨hi, h1, _, _, h⟩
  · rw [ha] at h
    rcases h with h | h | h
    · cases h
    · omega
    · omega
  · exact ⟨hi, h1, h⟩
def chnR : Option Spn → V
  | some s => .tuple [.agg [I s.lo, I s.hi], B true]
  | none => .tuple [.agg [I 0, I 0], B false]
theorem vc_chn (f : Fil) (t : List Int) (p : Nat) (h : Hp) (o : Okt f t) : VC Try.prog 87 [.fp (encDk f t), I p] h (chnR (chn f t p)) h := by
  have := vc_chain f t p h o (chS_bnd f t)
  unfold chnR chn
  exact this
def selS (q : Nat → Bool) : Nat → List Int
  | 0 => []
  | k + 1 => if q k then selS q k ++ [(k : Int)] else selS q k
theorem selS_len (q : Nat → Bool) : ∀ k, (selS q k).length ≤ k
  | 0 => Nat.le_refl _
  | k + 1 => by
    have := selS_len q k
    rw [selS]; split <;> simp <;> omega
def arL (f : Fil) (t : List Int) : List Int := selS (arB f t) t.length
theorem vc_darises (f : Fil) (t : List Int) (h : Hp) (o : Okt f t) : VC Try.prog 69 [.fp (encDk f t)] h (ints (arL f t)) h := by
  have hn := o.n
  have hlen := o.len
  unfold arL
  refine VC.body Try.func69 rfl Try.ntmps69 Try.call69 (h.grows_refl) rfl ?_; conv => whnf
  repeat (first | ((first | refine zs1 ?_ | refine zs2 ?_ | refine zs3 ?_ | refine zs4 ?_ | refine zs5 ?_ | refine zs6 [] ?_); conv => whnf))
  refine VCode.lp (fun k : Nat => [(0, .fp (encDk f t)), (3, .gl (.loc 0) 1 (selS (arB f t) k).length), (11, I t.length), (12, I k)]) (fun k => [.flat true ((selS (arB f t) k).flatMap encI)]) (fun k => k ≤ t.length) (fun k => t.length - k) 0 (Nat.zero_le _) ?_ ?_
  · conv => whnf
    refine Retell.turn ⟨[0], 0, [], []⟩ (TurnOk.mk' _ _ [] [] (OutOk.lift _) rfl (by decide) zb trivial trivial rfl) zv zm
  · intro k hk
    have hsl := selS_len (arB f t) k
    conv => whnf
    refine VIte.dec (fun h3 => ?_) (fun h3 => ?_)
    · conv => whnf
      repeat (first | ((first | refine zs1 ?_ | refine zs2 ?_ | refine zs3 ?_ | refine zs4 ?_ | refine zs5 ?_ | refine zs6 [] ?_); conv => whnf))
      refine VCall.intro (vc_chn f t k _ o) ?_
      cases ha : arB f t k
      · rw [chn_none o (by omega) ha]
        conv => whnf
        repeat (first | ((first | refine zs1 ?_ | refine zs2 ?_ | refine zs3 ?_ | refine zs4 ?_ | refine zs5 ?_ | refine zs6 [] ?_); conv => whnf))
        refine LEnd.intro (k + 1) (by omega) (by omega) ?_
        conv => whnf
        rw [selS, ha, if_neg (by simp)]
        refine Retell.turn ⟨[0], 2, [], []⟩ (TurnOk.mk' _ _ [] [] (OutOk.lift _) rfl (by decide) zb trivial trivial rfl) zv zm
      · obtain ⟨hi, hc, _⟩ := chn_some o (by omega) ha
        rw [hc]
        conv => whnf
        repeat (first | ((first | refine zs1 ?_ | refine zs2 ?_ | refine zs3 ?_ | refine zs4 ?_ | refine zs5 ?_ | refine zs6 [] ?_); conv => whnf))
        refine VMem.app1 (k : Int) encI_len rfl rfl rfl rfl rfl (by omega) ?_
        conv => whnf
        repeat (first | ((first | refine zs1 ?_ | refine zs2 ?_ | refine zs3 ?_ | refine zs4 ?_ | refine zs5 ?_ | refine zs6 [] ?_); conv => whnf))
        refine LEnd.intro (k + 1) (by omega) (by omega) ?_
        conv => whnf
        rw [selS, ha, if_pos rfl, List.length_append]
        refine Retell.turn ⟨[3], 4, [], []⟩ (TurnOk.mk' _ _ [] [] (OutOk.lift _) rfl (by decide) zb trivial trivial rfl) zv zm
    · conv => whnf
      have hk' : k = t.length := by omega
      subst hk'
      repeat (first | ((first | refine zs1 ?_ | refine zs2 ?_ | refine zs3 ?_ | refine zs4 ?_ | refine zs5 ?_ | refine zs6 [] ?_); conv => whnf))
      refine VOut.data 1 [(0, (selS (arB f t) t.length).flatMap encI)] [] rfl zf (by exact FmAll.nil) zv
end Go.Proofs.Ytolnajnlcdacmaa

open Go.Vm
namespace Go.Proofs.Ytolnajnlcdacmaa
set_option maxRecDepth 20000
set_option maxHeartbeats 1000000

theorem vc_begun_no (f : Fil) (t : List Int) (h : Hp) (hn : f.ps.length ≤ 4000000) (hl : t.length ≤ 4000000) (h0 : toldE f t ≠ 0) : VC Try.prog 68 [vF f, ints t] h (.tuple [.nilptr, I (toldE f t)]) h := by
  have := vc_begun f t h hn hl
  rw [if_neg h0] at this; exact this
theorem vc_begun_ok (f : Fil) (t : List Int) (h : Hp) (hn : f.ps.length ≤ 4000000) (hl : t.length ≤ 4000000) (h0 : toldE f t = 0) : VC Try.prog 68 [vF f, ints t] h (.tuple [.fp (encDk f t), I 0]) h := by
  have := vc_begun f t h hn hl
  rw [if_pos h0, h0] at this; exact this
theorem vc_Arises (f : Fil) (t : List Int) (h : Hp) (hn : f.ps.length ≤ 4000000) (hl : t.length ≤ 4000000) : VC Try.prog 29 [vF f, ints t] h (.tuple [if toldE f t = 0 then ints (arL f t) else .nilslice, I (toldE f t)]) h := by
  by_cases h0 : toldE f t = 0
  case neg =>
    rw [if_neg h0]
    refine VC.body Try.func29 rfl Try.ntmps29 Try.call29 (h.grows_refl) rfl ?_; conv => whnf
    repeat' (first | ((first | refine zs1 ?_ | refine zs2 ?_ | refine zs3 ?_ | refine zs4 ?_ | refine zs5 ?_ | refine zs6 [] ?_); conv => whnf) | ((first | apply zi1 | apply zi2 | apply zi3 | apply zi4 | apply zi5) <;> intro _ <;> conv => whnf) | (refine VCall.intro (vc_begun_no f t _ hn hl h0) ?_; conv => whnf))
    · exact VOut.same rfl
    · rename_i h1; exact absurd (by simpa using h1) h0
  case pos =>
    rw [h0, if_pos rfl]
    refine VC.body Try.func29 rfl Try.ntmps29 Try.call29 (h.grows_refl) rfl ?_; conv => whnf
    repeat' (first | ((first | refine zs1 ?_ | refine zs2 ?_ | refine zs3 ?_ | refine zs4 ?_ | refine zs5 ?_ | refine zs6 [] ?_); conv => whnf) | ((first | apply zi1 | apply zi2 | apply zi3 | apply zi4 | apply zi5) <;> intro _ <;> conv => whnf) | (refine VCall.intro (vc_begun_ok f t _ hn hl h0) ?_; conv => whnf))
    refine VCall.intro (vc_darises f t _ (told_ok h0)) ?_
    conv => whnf
    exact VOut.same rfl
theorem vc_Chains (f : Fil) (t : List Int) (h : Hp) (hn : f.ps.length ≤ 4000000) (hl : t.length ≤ 4000000) : VC Try.prog 31 [vF f, ints t] h (.tuple [if toldE f t = 0 then spans (chS f t t.length) else .nilslice, I (toldE f t)]) h := by
  by_cases h0 : toldE f t = 0
  case neg =>
    rw [if_neg h0]
    refine VC.body Try.func31 rfl Try.ntmps31 Try.call31 (h.grows_refl) rfl ?_; conv => whnf
    repeat' (first | ((first | refine zs1 ?_ | refine zs2 ?_ | refine zs3 ?_ | refine zs4 ?_ | refine zs5 ?_ | refine zs6 [] ?_); conv => whnf) | ((first | apply zi1 | apply zi2 | apply zi3 | apply zi4 | apply zi5) <;> intro _ <;> conv => whnf) | (refine VCall.intro (vc_begun_no f t _ hn hl h0) ?_; conv => whnf))
    · exact VOut.same rfl
    · rename_i h1; exact absurd (by simpa using h1) h0
  case pos =>
    rw [h0, if_pos rfl]
    refine VC.body Try.func31 rfl Try.ntmps31 Try.call31 (h.grows_refl) rfl ?_; conv => whnf
    repeat' (first | ((first | refine zs1 ?_ | refine zs2 ?_ | refine zs3 ?_ | refine zs4 ?_ | refine zs5 ?_ | refine zs6 [] ?_); conv => whnf) | ((first | apply zi1 | apply zi2 | apply zi3 | apply zi4 | apply zi5) <;> intro _ <;> conv => whnf) | (refine VCall.intro (vc_begun_ok f t _ hn hl h0) ?_; conv => whnf))
    refine VCall.intro (vc_chains f t _ (told_ok h0)) ?_
    conv => whnf
    exact VOut.same rfl
def ownS (f : Fil) (t : List Int) : Nat → Int × Int
  | 0 => (2, 0)
  | k + 1 => if arB f t k then (sdAt f k, tAt t k) else ownS f t k
def own (f : Fil) (t : List Int) : Int × Int := ownS f t t.length
theorem ownS_sel (f : Fil) (t : List Int) : ∀ k, (selS (arB f t) k = [] ∧ ownS f t k = (2, 0)) ∨ ∃ (l : List Int) (j : Nat), selS (arB f t) k = l ++ [(j : Int)] ∧ j < k ∧ arB f t j = true ∧ ownS f t k = (sdAt f j, tAt t j)
  | 0 => .inl ⟨rfl, rfl⟩
  | k + 1 => by
    rw [selS, ownS]
    cases h : arB f t k
    · simp only [Bool.false_eq_true, if_false]
      rcases ownS_sel f t k with h1 | ⟨l, j, h1, h2, h3, h4⟩
      · exact .inl h1
      · exact .inr ⟨l, j, h1, by omega, h3, h4⟩
    · simp only [if_true]
      exact .inr ⟨_, k, rfl, by omega, h, rfl⟩
theorem vc_Owner (f : Fil) (t : List Int) (h : Hp) (hn : f.ps.length ≤ 4000000) (hl : t.length ≤ 4000000) : VC Try.prog 41 [vF f, ints t] h (.tuple [I (if toldE f t = 0 then (own f t).1 else 0), I (toldE f t)]) h := by
  by_cases h0 : toldE f t = 0
  case neg =>
    rw [if_neg h0]
    refine VC.body Try.func41 rfl Try.ntmps41 Try.call41 (h.grows_refl) rfl ?_; conv => whnf
    repeat' (first | ((first | refine zs1 ?_ | refine zs2 ?_ | refine zs3 ?_ | refine zs4 ?_ | refine zs5 ?_ | refine zs6 [] ?_); conv => whnf) | ((first | apply zi1 | apply zi2 | apply zi3 | apply zi4 | apply zi5) <;> intro _ <;> conv => whnf) | (refine VCall.intro (vc_begun_no f t _ hn hl h0) ?_; conv => whnf))
    · exact VOut.same rfl
    · rename_i h1; exact absurd (by simpa using h1) h0
  case pos =>
    have o := told_ok h0
    have hlen := o.len
    have hn' := o.n
    rw [h0, if_pos rfl]
    refine VC.body Try.func41 rfl Try.ntmps41 Try.call41 (h.grows_refl) rfl ?_; conv => whnf
    repeat' (first | ((first | refine zs1 ?_ | refine zs2 ?_ | refine zs3 ?_ | refine zs4 ?_ | refine zs5 ?_ | refine zs6 [] ?_); conv => whnf) | ((first | apply zi1 | apply zi2 | apply zi3 | apply zi4 | apply zi5) <;> intro _ <;> conv => whnf) | (refine VCall.intro (vc_begun_ok f t _ hn hl h0) ?_; conv => whnf))
    refine VCall.intro (vc_darises f t _ o) ?_
    rcases ownS_sel f t t.length with ⟨h2, h3⟩ | ⟨l, j, h2, h3, h4, h5⟩
    · rw [arL, h2, own, h3]
      conv => whnf
      exact VOut.same rfl
    · have hsl := selS_len (arB f t) t.length
      rw [arL, own, h5]
      rw [h2] at hsl ⊢
      have hi : (l ++ [(j : Int)])[l.length]? = some (j : Int) := by simp
      have hlen2 : (l ++ [(j : Int)]).length = l.length + 1 := by simp
      have hp : f.ps[j]? = some f.ps[j] := List.getElem?_eq_getElem (by omega)
      generalize f.ps[j] = p at hp
      rw [sdAt_eq hp]
      conv => whnf
      repeat' (first | ((first | refine zs1 ?_ | refine zs2 ?_ | refine zs3 ?_ | refine zs4 ?_ | refine zs5 ?_ | refine zs6 [] ?_); conv => whnf) | ((first | apply zi1 | apply zi2 | apply zi3 | apply zi4 | apply zi5) <;> intro _ <;> conv => whnf) | (refine VAny.ix encI_len l.length (by omega) rfl hi ?_; conv => whnf) | (refine VAny.ix encP_len j rfl rfl hp ?_; conv => whnf))
      · omega
      · exact VOut.same rfl
theorem vc_rArises (f : Fil) (t : List Int) (h : Hp) (hn : f.ps.length ≤ 4000000) (hl : t.length ≤ 4000000) : VC Try.prog 40 [vF f, ints t] h (.tuple [if toldE f t = 0 then ints (arL f t) else .nilslice, I (toldE f t)]) h := by
  refine VC.body Try.func40 rfl Try.ntmps40 Try.call40 (h.grows_refl) rfl ?_; conv => whnf
  repeat' (first | ((first | refine zs1 ?_ | refine zs2 ?_ | refine zs3 ?_ | refine zs4 ?_ | refine zs5 ?_ | refine zs6 [] ?_); conv => whnf) | ((first | apply zi1 | apply zi2 | apply zi3 | apply zi4 | apply zi5) <;> intro _ <;> conv => whnf) | (refine VCall.intro (vc_Told f t _ hn hl) ?_; conv => whnf))
  · rename_i h1
    have h0 : toldE f t ≠ 0 := by simpa using h1
    rw [if_neg h0]
    exact VOut.same rfl
  · rename_i h1
    have h0 : toldE f t = 0 := by simpa using h1
    have o := told_ok h0
    have hlen := o.len
    have hn' := o.n
    rw [h0, if_pos rfl, arL]
    refine VCode.lp (fun k : Nat => [(1, ints t), (2, .ptr (.loc 0) 0), (7, .gl (.loc 1) 1 (selS (arB f t) k).length), (8, I k)]) (fun k => [.flat true (encF f), .flat true ((selS (arB f t) k).flatMap encI)]) (fun k => k ≤ t.length) (fun k => t.length - k) 0 (Nat.zero_le _) ?_ ?_
    · conv => whnf
      refine Retell.turn ⟨[0,1], 1, [], []⟩ (TurnOk.mk' _ _ [] [] (OutOk.lift _) rfl (by decide) zb trivial trivial rfl) zv zm
    · intro k hk
      have hsl := selS_len (arB f t) k
      conv => whnf
      refine VIte.dec (fun h3 => ?_) (fun h3 => ?_)
      · conv => whnf
        repeat (first | ((first | refine zs1 ?_ | refine zs2 ?_ | refine zs3 ?_ | refine zs4 ?_ | refine zs5 ?_ | refine zs6 [] ?_); conv => whnf))
        refine VCall.intro (vc_rarises f t k _ o (by omega)) ?_
        conv => whnf
        cases ha : arB f t k
        · conv => whnf
          repeat (first | ((first | refine zs1 ?_ | refine zs2 ?_ | refine zs3 ?_ | refine zs4 ?_ | refine zs5 ?_ | refine zs6 [] ?_); conv => whnf))
          refine LEnd.intro (k + 1) (by omega) (by omega) ?_
          conv => whnf
          rw [selS, ha, if_neg (by simp)]
          refine Retell.turn ⟨[0,1], 2, [], []⟩ (TurnOk.mk' _ _ [] [] (OutOk.lift _) rfl (by decide) zb trivial trivial rfl) zv zm
        · conv => whnf
          repeat (first | ((first | refine zs1 ?_ | refine zs2 ?_ | refine zs3 ?_ | refine zs4 ?_ | refine zs5 ?_ | refine zs6 [] ?_); conv => whnf))
          refine VMem.app1 (k : Int) encI_len rfl rfl rfl rfl rfl (by omega) ?_
          conv => whnf
          repeat (first | ((first | refine zs1 ?_ | refine zs2 ?_ | refine zs3 ?_ | refine zs4 ?_ | refine zs5 ?_ | refine zs6 [] ?_); conv => whnf))
          refine LEnd.intro (k + 1) (by omega) (by omega) ?_
          conv => whnf
          rw [selS, ha, if_pos rfl, List.length_append]
          refine Retell.turn ⟨[0,3], 4, [], []⟩ (TurnOk.mk' _ _ [] [] (OutOk.lift _) rfl (by decide) zb trivial trivial rfl) zv zm
      · conv => whnf
        have hk' : k = t.length := by omega
        subst hk'
        repeat (first | ((first | refine zs1 ?_ | refine zs2 ?_ | refine zs3 ?_ | refine zs4 ?_ | refine zs5 ?_ | refine zs6 [] ?_); conv => whnf))
        refine VOut.data 2 [(1, (selS (arB f t) t.length).flatMap encI)] [] rfl zf (by exact FmAll.nil) zv
theorem vc_owner (f : Fil) (t : List Int) (h : Hp) (o : Okt f t) : VC Try.prog 56 [vF f, ints t] h (.tuple [I (own f t).1, I (own f t).2]) h := by
  have hlen := o.len
  have hn' := o.n
  unfold own
  refine VC.body Try.func56 rfl Try.ntmps56 Try.call56 (h.grows_refl) rfl ?_; conv => whnf
  repeat (first | ((first | refine zs1 ?_ | refine zs2 ?_ | refine zs3 ?_ | refine zs4 ?_ | refine zs5 ?_ | refine zs6 [] ?_); conv => whnf))
  refine VCode.lp (fun k : Nat => [(1, ints t), (2, .ptr (.loc 0) 0), (6, I (ownS f t k).1), (7, I (ownS f t k).2), (8, I k)]) (fun k => [.flat true (encF f)]) (fun k => k ≤ t.length) (fun k => t.length - k) 0 (Nat.zero_le _) ?_ ?_
  · conv => whnf
    refine Retell.turn ⟨[0], 1, [], []⟩ (TurnOk.mk' _ _ [] [] (OutOk.lift _) rfl (by decide) zb trivial trivial rfl) zv zm
  · intro k hk
    conv => whnf
    refine VIte.dec (fun h3 => ?_) (fun h3 => ?_)
    · conv => whnf
      repeat (first | ((first | refine zs1 ?_ | refine zs2 ?_ | refine zs3 ?_ | refine zs4 ?_ | refine zs5 ?_ | refine zs6 [] ?_); conv => whnf))
      refine VCall.intro (vc_rarises f t k _ o (by omega)) ?_
      conv => whnf
      cases ha : arB f t k
      · conv => whnf
        repeat (first | ((first | refine zs1 ?_ | refine zs2 ?_ | refine zs3 ?_ | refine zs4 ?_ | refine zs5 ?_ | refine zs6 [] ?_); conv => whnf))
        refine LEnd.intro (k + 1) (by omega) (by omega) ?_
        conv => whnf
        rw [ownS, ha, if_neg (by simp)]
        refine Retell.turn ⟨[0], 1, [], []⟩ (TurnOk.mk' _ _ [] [] (OutOk.lift _) rfl (by decide) zb trivial trivial rfl) zv zm
      · have hp : f.ps[k]? = some f.ps[k] := List.getElem?_eq_getElem (by omega)
        have hy : t[k]? = some t[k] := List.getElem?_eq_getElem (by omega)
        have e1 := sdAt_eq hp
        have e2 := tAt_eq hy
        generalize f.ps[k] = p at hp e1
        generalize t[k] = y at hy e2
        conv => whnf
        repeat' (first | ((first | refine zs1 ?_ | refine zs2 ?_ | refine zs3 ?_ | refine zs4 ?_ | refine zs5 ?_ | refine zs6 [] ?_); conv => whnf) | ((first | apply zi1 | apply zi2 | apply zi3 | apply zi4 | apply zi5) <;> intro _ <;> conv => whnf) | (refine VAny.ix encP_len k rfl rfl hp ?_; conv => whnf) | (refine VAny.ix encI_len k rfl rfl hy ?_; conv => whnf))
        refine LEnd.intro (k + 1) (by omega) (by omega) ?_
        conv => whnf
        rw [ownS, ha, if_pos rfl, e1, e2]
        refine Retell.turn ⟨[0], 1, [], []⟩ (TurnOk.mk' _ _ [] [] (OutOk.lift _) rfl (by decide) zb trivial trivial rfl) zv zm
    · conv => whnf
      have hk' : k = t.length := by omega
      subst hk'
      repeat (first | ((first | refine zs1 ?_ | refine zs2 ?_ | refine zs3 ?_ | refine zs4 ?_ | refine zs5 ?_ | refine zs6 [] ?_); conv => whnf))
      exact VOut.same rfl
theorem vc_rOwner (f : Fil) (t : List Int) (h : Hp) (hn : f.ps.length ≤ 4000000) (hl : t.length ≤ 4000000) : VC Try.prog 21 [vF f, ints t] h (.tuple [I (if toldE f t = 0 then (own f t).1 else 0), I (toldE f t)]) h := by
  refine VC.body Try.func21 rfl Try.ntmps21 Try.call21 (h.grows_refl) rfl ?_; conv => whnf
  repeat' (first | ((first | refine zs1 ?_ | refine zs2 ?_ | refine zs3 ?_ | refine zs4 ?_ | refine zs5 ?_ | refine zs6 [] ?_); conv => whnf) | ((first | apply zi1 | apply zi2 | apply zi3 | apply zi4 | apply zi5) <;> intro _ <;> conv => whnf) | (refine VCall.intro (vc_Told f t _ hn hl) ?_; conv => whnf))
  · rename_i h1
    have h0 : toldE f t ≠ 0 := by simpa using h1
    rw [if_neg h0]
    exact VOut.same rfl
  · rename_i h1
    have h0 : toldE f t = 0 := by simpa using h1
    have o := told_ok h0
    rw [h0, if_pos rfl]
    refine VCall.intro (vc_owner f t _ o) ?_
    conv => whnf
    repeat (first | ((first | refine zs1 ?_ | refine zs2 ?_ | refine zs3 ?_ | refine zs4 ?_ | refine zs5 ?_ | refine zs6 [] ?_); conv => whnf))
    exact VOut.same rfl
theorem vc_rChains (f : Fil) (t : List Int) (h : Hp) (hn : f.ps.length ≤ 4000000) (hl : t.length ≤ 4000000) : VC Try.prog 38 [vF f, ints t] h (.tuple [if toldE f t = 0 then spans (chS f t t.length) else .nilslice, I (toldE f t)]) h := by
  refine VC.body Try.func38 rfl Try.ntmps38 Try.call38 (h.grows_refl) rfl ?_; conv => whnf
  repeat' (first | ((first | refine zs1 ?_ | refine zs2 ?_ | refine zs3 ?_ | refine zs4 ?_ | refine zs5 ?_ | refine zs6 [] ?_); conv => whnf) | ((first | apply zi1 | apply zi2 | apply zi3 | apply zi4 | apply zi5) <;> intro _ <;> conv => whnf) | (refine VCall.intro (vc_Told f t _ hn hl) ?_; conv => whnf))
  · rename_i h1
    have h0 : toldE f t ≠ 0 := by simpa using h1
    rw [if_neg h0]
    exact VOut.same rfl
  · rename_i h1
    have h0 : toldE f t = 0 := by simpa using h1
    have o := told_ok h0
    have hlen := o.len
    have hn' := o.n
    rw [h0, if_pos rfl]
    refine VCode.lp (fun k : Nat => [(1, ints t), (2, .ptr (.loc 0) 0), (7, .gl (.loc 1) 2 (chS f t k).length), (8, I k)]) (fun k => [.flat true (encF f), .flat true ((chS f t k).flatMap encS)]) (fun k => k ≤ t.length) (fun k => t.length - k) 0 (Nat.zero_le _) ?_ ?_
    · conv => whnf
      refine Retell.turn ⟨[0,1], 1, [], []⟩ (TurnOk.mk' _ _ [] [] (OutOk.lift _) rfl (by decide) zb trivial trivial rfl) zv zm
    · intro k hk
      have hcl := chS_le f t k
      conv => whnf
      refine VIte.dec (fun h3 => ?_) (fun h3 => ?_)
      · conv => whnf
        repeat (first | ((first | refine zs1 ?_ | refine zs2 ?_ | refine zs3 ?_ | refine zs4 ?_ | refine zs5 ?_ | refine zs6 [] ?_); conv => whnf))
        refine VCall.intro (vc_begins f t k _ o (by omega)) ?_
        conv => whnf
        cases ha : bgB f t k
        · conv => whnf
          have hk0 : 0 < k := by
            rcases Nat.eq_zero_or_pos k with rfl | hk0
            · rw [bg0] at ha; cases ha
            · exact hk0
          have hs : (chS f t k)[(chS f t k).length - 1]? = some (chS f t k)[(chS f t k).length - 1] := List.getElem?_eq_getElem (by omega)
          generalize (chS f t k)[(chS f t k).length - 1] = s at hs
          have h9 : ((↑(chS f t k).length : Int) - 1).toNat = (chS f t k).length - 1 := by omega
          repeat (first | ((first | refine zs1 ?_ | refine zs2 ?_ | refine zs3 ?_ | refine zs4 ?_ | refine zs5 ?_ | refine zs6 [] ?_); conv => whnf))
          refine VMem.setRec encS_len ((chS f t k).length - 1) 1 (Spn.mk s.lo k) rfl rfl rfl hs (by decide) rfl (by rw [h9]) ?_
          conv => whnf
          repeat (first | ((first | refine zs1 ?_ | refine zs2 ?_ | refine zs3 ?_ | refine zs4 ?_ | refine zs5 ?_ | refine zs6 [] ?_); conv => whnf))
          have hc : chS f t (k + 1) = (chS f t k).set ((chS f t k).length - 1) ⟨s.lo, k⟩ := by rw [chS, ha, hs]; rfl
          refine LEnd.intro (k + 1) (by omega) (by omega) ?_
          conv => whnf
          rw [hc, List.length_set]
          refine Retell.turn ⟨[0,1], 2, [], []⟩ (TurnOk.mk' _ _ [] [] (OutOk.lift _) rfl (by decide) zb trivial trivial rfl) zv zm
        · conv => whnf
          repeat (first | ((first | refine zs1 ?_ | refine zs2 ?_ | refine zs3 ?_ | refine zs4 ?_ | refine zs5 ?_ | refine zs6 [] ?_); conv => whnf))
          refine VMem.app1 (Spn.mk k k) encS_len rfl rfl rfl rfl rfl (by omega) ?_
          conv => whnf
          repeat (first | ((first | refine zs1 ?_ | refine zs2 ?_ | refine zs3 ?_ | refine zs4 ?_ | refine zs5 ?_ | refine zs6 [] ?_); conv => whnf))
          have h9 : ((↑((chS f t k).length + 1) : Int) - 1).toNat = (chS f t k).length := by omega
          refine VMem.setRec encS_len (chS f t k).length 1 (Spn.mk k k) rfl rfl rfl (a := ⟨k, k⟩) (by simp) (by decide) rfl (by rw [h9]) ?_
          rw [show (chS f t k ++ [Spn.mk k k]).set (chS f t k).length (Spn.mk k k) = chS f t k ++ [Spn.mk k k] from by simp]
          conv => whnf
          repeat (first | ((first | refine zs1 ?_ | refine zs2 ?_ | refine zs3 ?_ | refine zs4 ?_ | refine zs5 ?_ | refine zs6 [] ?_); conv => whnf))
          have hc : chS f t (k + 1) = chS f t k ++ [⟨k, k⟩] := by rw [chS, ha]; rfl
          refine LEnd.intro (k + 1) (by omega) (by omega) ?_
          conv => whnf
          rw [hc, List.length_append]
          refine Retell.turn ⟨[0,3], 4, [], []⟩ (TurnOk.mk' _ _ [] [] (OutOk.lift _) rfl (by decide) zb trivial trivial rfl) zv zm
      · conv => whnf
        have hk' : k = t.length := by omega
        subst hk'
        repeat (first | ((first | refine zs1 ?_ | refine zs2 ?_ | refine zs3 ?_ | refine zs4 ?_ | refine zs5 ?_ | refine zs6 [] ?_); conv => whnf))
        refine VOut.data 2 [(1, (chS f t t.length).flatMap encS)] [] rfl zf (by exact FmAll.nil) zv
end Go.Proofs.Ytolnajnlcdacmaa

open Go.Vm
namespace Go.Proofs.Ytolnajnlcdacmaa
set_option maxRecDepth 20000
set_option maxHeartbeats 1000000

def showE (f : Fil) (t : List Int) (p : Int) : Int := if toldE f t ≠ 0 then toldE f t else if p < 0 ∨ (t.length : Int) - 1 < p then 2 else bif arB f t p.toNat then 0 else 7
structure Shw (f : Fil) (t : List Int) (p : Nat) : Prop extends Okt f t where
  lt : p < t.length
  ar : arB f t p = true
theorem show_ok {f : Fil} {t : List Int} {p : Int} (h : showE f t p = 0) : ∃ q : Nat, p = q ∧ Shw f t q := by
  unfold showE at h
  split at h
  · contradiction
  · rename_i h0
    split at h
    · cases h
    · rename_i h1
      cases h2 : arB f t p.toNat
      · rw [h2] at h; cases h
      · have o := told_ok (f := f) (t := t) (by simpa using h0)
        exact ⟨p.toNat, by omega, { o with lt := by omega, ar := h2 }⟩
theorem vc_Shown (f : Fil) (t : List Int) (p : Int) (h : Hp) (hn : f.ps.length ≤ 4000000) (hl : t.length ≤ 4000000) : VC Try.prog 77 [vF f, ints t, I p] h (I (showE f t p)) h := by
  unfold showE
  refine VC.body Try.func77 rfl Try.ntmps77 Try.call77 (h.grows_refl) rfl ?_; conv => whnf
  repeat' (first | ((first | refine zs1 ?_ | refine zs2 ?_ | refine zs3 ?_ | refine zs4 ?_ | refine zs5 ?_ | refine zs6 [] ?_); conv => whnf) | ((first | apply zi1 | apply zi2 | apply zi3 | apply zi4 | apply zi5) <;> intro _ <;> conv => whnf) | (refine VCall.intro (vc_Told f t _ hn hl) ?_; conv => whnf))
  · rename_i h1
    rw [if_pos (by simpa using h1)]
    exact VOut.same rfl
  · rename_i h1
    have h0 : toldE f t = 0 := by simpa using h1
    have o := told_ok h0
    have hlen := o.len
    have hn' := o.n
    rw [if_neg (by simpa using h0)]
    repeat' (first | ((first | refine zs1 ?_ | refine zs2 ?_ | refine zs3 ?_ | refine zs4 ?_ | refine zs5 ?_ | refine zs6 [] ?_); conv => whnf) | ((first | apply zi1 | apply zi2 | apply zi3 | apply zi4 | apply zi5) <;> intro _ <;> conv => whnf) | (refine VCall.intro (vc_beside _ _ _ _) ?_; conv => whnf))
    · rw [if_pos (by omega)]
      exact VOut.same rfl
    · rw [if_neg (by omega)]
      obtain ⟨q, rfl⟩ : ∃ q : Nat, p = q := ⟨p.toNat, by omega⟩
      refine VCall.intro (vc_rarises f t q _ o (by omega)) ?_
      simp only [Int.toNat_natCast]
      conv => whnf
      cases ha : arB f t q
      · exact VOut.same rfl
      · exact VOut.same rfl
theorem vc_shown_no (f : Fil) (t : List Int) (p : Int) (h : Hp) (hn : f.ps.length ≤ 4000000) (hl : t.length ≤ 4000000) (h0 : showE f t p ≠ 0) : VC Try.prog 70 [vF f, ints t, I p] h (.tuple [.nilptr, .agg [I 0, I 0], I (showE f t p)]) h := by
  by_cases h1 : toldE f t = 0
  case neg =>
    have he : showE f t p = toldE f t := by unfold showE; rw [if_pos h1]
    rw [he]
    refine VC.body Try.func70 rfl Try.ntmps70 Try.call70 (h.grows_refl) rfl ?_; conv => whnf
    repeat' (first | ((first | refine zs1 ?_ | refine zs2 ?_ | refine zs3 ?_ | refine zs4 ?_ | refine zs5 ?_ | refine zs6 [] ?_); conv => whnf) | ((first | apply zi1 | apply zi2 | apply zi3 | apply zi4 | apply zi5) <;> intro _ <;> conv => whnf) | (refine VCall.intro (vc_begun_no f t _ hn hl h1) ?_; conv => whnf))
    · exact VOut.same rfl
    all_goals (rename_i h2; exact absurd (by simpa using h2) h1)
  case pos =>
    have o := told_ok h1
    have hlen := o.len
    have hn' := o.n
    have he : showE f t p = if p < 0 ∨ (t.length : Int) - 1 < p then 2 else bif arB f t p.toNat then 0 else 7 := by unfold showE; rw [if_neg (by simpa using h1)]
    rw [he] at h0 ⊢
    refine VC.body Try.func70 rfl Try.ntmps70 Try.call70 (h.grows_refl) rfl ?_; conv => whnf
    repeat' (first | ((first | refine zs1 ?_ | refine zs2 ?_ | refine zs3 ?_ | refine zs4 ?_ | refine zs5 ?_ | refine zs6 [] ?_); conv => whnf) | ((first | apply zi1 | apply zi2 | apply zi3 | apply zi4 | apply zi5) <;> intro _ <;> conv => whnf) | (refine VCall.intro (vc_begun_ok f t _ hn hl h1) ?_; conv => whnf) | (refine VCall.intro (vc_from _ _ _ _) ?_; conv => whnf))
    · rw [if_pos (by omega)]
      exact VOut.same rfl
    · rw [if_neg (by omega)] at h0 ⊢
      obtain ⟨q, rfl⟩ : ∃ q : Nat, p = q := ⟨p.toNat, by omega⟩
      simp only [Int.toNat_natCast] at h0 ⊢
      have ha : arB f t q = false := by
        cases ha : arB f t q
        · rfl
        · rw [ha] at h0; exact absurd rfl h0
      rw [ha]
      refine VCall.intro (vc_chn f t q _ o) ?_
      rw [chn_none o (by omega) ha]
      conv => whnf
      repeat (first | ((first | refine zs1 ?_ | refine zs2 ?_ | refine zs3 ?_ | refine zs4 ?_ | refine zs5 ?_ | refine zs6 [] ?_); conv => whnf))
      exact VOut.same rfl
theorem vc_shown_ok (f : Fil) (t : List Int) (p hi : Nat) (h : Hp) (hl : t.length ≤ 4000000) (o : Shw f t p) (h0 : toldE f t = 0) (hc : chn f t p = some ⟨fst f t p, hi⟩) : VC Try.prog 70 [vF f, ints t, I p] h (.tuple [.fp (encDk f t), .agg [I (fst f t p), I hi], I 0]) h := by
  have hlen := o.len
  have hn' := o.n
  have hlt := o.lt
  refine VC.body Try.func70 rfl Try.ntmps70 Try.call70 (h.grows_refl) rfl ?_; conv => whnf
  repeat' (first | ((first | refine zs1 ?_ | refine zs2 ?_ | refine zs3 ?_ | refine zs4 ?_ | refine zs5 ?_ | refine zs6 [] ?_); conv => whnf) | ((first | apply zi1 | apply zi2 | apply zi3 | apply zi4 | apply zi5) <;> intro _ <;> conv => whnf) | (refine VCall.intro (vc_begun_ok f t _ (by omega) hl h0) ?_; conv => whnf) | (refine VCall.intro (vc_from _ _ _ _) ?_; conv => whnf))
  · omega
  · refine VCall.intro (vc_chn f t p _ o.toOkt) ?_
    rw [hc]
    conv => whnf
    repeat (first | ((first | refine zs1 ?_ | refine zs2 ?_ | refine zs3 ?_ | refine zs4 ?_ | refine zs5 ?_ | refine zs6 [] ?_); conv => whnf))
    exact VOut.same rfl
end Go.Proofs.Ytolnajnlcdacmaa

open Go.Vm
namespace Go.Proofs.Ytolnajnlcdacmaa
set_option maxRecDepth 20000
set_option maxHeartbeats 1000000

structure Rvd (l : List Int) (k : Nat) (m : List Int) : Prop where
  len : m.length = l.length
  le : 2 * k ≤ l.length + 1
  at' : ∀ j, j < l.length → m[j]? = if j < k ∨ l.length - k ≤ j then l[l.length - 1 - j]? else l[j]?
theorem Rvd.step {l m : List Int} {k : Nat} {a b : Int} (h : Rvd l k m) (hk : 2 * k + 1 < l.length) (ha : m[k]? = some a) (hb : m[l.length - 1 - k]? = some b) : Rvd l (k + 1) ((m.set k b).set (l.length - 1 - k) a) where
  len := by simp [h.len]
  le := by omega
  at' := fun j hj => by
    have hl := h.len
    have e1 := h.at' k (by omega)
    have e2 := h.at' (l.length - 1 - k) (by omega)
    rw [ha, if_neg (by omega)] at e1
    rw [hb, if_neg (by omega)] at e2
    rw [List.getElem?_set, List.length_set]
    by_cases h1 : l.length - 1 - k = j
    · rw [if_pos h1, if_pos (by omega), if_pos (by omega), e1]
      congr 1; omega
    · rw [if_neg h1, List.getElem?_set]
      by_cases h2 : k = j
      · rw [if_pos h2, if_pos (by omega), if_pos (by omega), e2]
        subst h2; rfl
      · rw [if_neg h2, h.at' j hj]
        have : (j < k ∨ l.length - k ≤ j) ↔ (j < k + 1 ∨ l.length - (k + 1) ≤ j) := by omega
        simp only [this]
theorem Rvd.done {l m : List Int} {k : Nat} (h : Rvd l k m) (hk : l.length ≤ 2 * k + 1) : m = l.reverse := by
  apply List.ext_getElem?
  intro j
  have hl := h.len
  rcases Nat.lt_or_ge j l.length with h1 | h1
  · rw [h.at' j h1, List.getElem?_reverse h1]
    split
    · rfl
    · congr 1; omega
  · rw [List.getElem?_eq_none (by omega), List.getElem?_eq_none (by simpa using h1)]
theorem vc_reverse (l : List Int) (i : Vm.Id) (h : Hp) (hb : h.get i = some (.flat true (l.flatMap encI))) (hn : l.length ≤ 4000000) :
    VC Try.prog 60 [.gl i 1 l.length] h (.tuple []) (h.set i (.flat true (l.reverse.flatMap encI))) := by
  have hd : ∀ p ∈ [(i, Blk.flat true (l.reverse.flatMap encI))], h.get p.1 ≠ none := by
    intro p hp
    simp only [List.mem_cons, List.not_mem_nil, or_false] at hp
    subst hp; simp only; rw [hb]; simp
  have hgr : h.grows (h.set i (.flat true (l.reverse.flatMap encI))) := h.grows_set _ _
  refine VC.body Try.func60 rfl Try.ntmps60 Try.call60 hgr rfl ?_; conv => whnf
  repeat (first | ((first | refine zs1 ?_ | refine zs2 ?_ | refine zs3 ?_ | refine zs4 ?_ | refine zs5 ?_ | refine zs6 [] ?_); conv => whnf))
  have hlift : h.lift i = some (.flat true (l.flatMap encI)) := get_out hb []
  refine VCode.lpo (fun x : Nat × List Int => [(0, .gl (.out i) 1 l.length), (2, I x.1), (3, I ((l.length : Int) - 1 - x.1))]) (fun x => outW h.lift i (.flat true (x.2.flatMap encI))) (fun _ => []) (fun x => Rvd l x.1 x.2) (fun x => l.length - x.1) (0, l) ⟨rfl, by omega, fun j hj => ?_⟩ (outW_id hlift) ?_ ?_
  · rw [if_neg (by omega)]
  · conv => whnf
    refine Retell.turn ⟨[], 0, [], []⟩ (TurnOk.mk' _ _ [] [] (OutOk.outW (OutOk.lift _) rfl) rfl (by decide) zb trivial trivial rfl) zv zm
  · rintro ⟨k, m⟩ hr
    simp only at hr ⊢
    have hl := hr.len
    conv => whnf
    refine VIte.dec (fun h3 => ?_) (fun h3 => ?_)
    · have ha : m[k]? = some m[k] := List.getElem?_eq_getElem (by omega)
      have hc : m[l.length - 1 - k]? = some m[l.length - 1 - k] := List.getElem?_eq_getElem (by omega)
      generalize m[k] = a at ha
      generalize m[l.length - 1 - k] = c at hc
      have hst := hr.step (by omega) ha hc
      have hc2 : (m.set k c)[l.length - 1 - k]? = some c := by rw [List.getElem?_set, if_neg (by omega)]; exact hc
      conv => whnf
      repeat' (first | ((first | refine zs1 ?_ | refine zs2 ?_ | refine zs3 ?_ | refine zs4 ?_ | refine zs5 ?_ | refine zs6 [] ?_); conv => whnf) | ((first | apply zi1 | apply zi2 | apply zi3 | apply zi4 | apply zi5) <;> intro _ <;> conv => whnf) | (refine VLd.recc encI_len (l.length - 1 - k) 0 rfl rfl (outW_get _ _ _ _) hc (by decide) rfl (by simp only [Nat.zero_add, Nat.mul_one]; omega) ?_; conv => whnf) | (refine VLd.recc encI_len k 0 rfl rfl (outW_get _ _ _ _) ha (by decide) rfl (by simp only [Nat.zero_add, Nat.mul_one]; omega) ?_; conv => whnf))
      refine VMem.setRec encI_len k 0 c rfl rfl (outW_get _ _ _ _) ha (by decide) rfl (by simp only [Nat.zero_add, Nat.mul_one]; omega) ?_
      conv => whnf
      repeat (first | ((first | refine zs1 ?_ | refine zs2 ?_ | refine zs3 ?_ | refine zs4 ?_ | refine zs5 ?_ | refine zs6 [] ?_); conv => whnf))
      refine VMem.setRec encI_len (l.length - 1 - k) 0 a rfl rfl (outW_get _ _ _ _) hc2 (by decide) rfl (by simp only [Nat.zero_add, Nat.mul_one]; omega) ?_
      conv => whnf
      repeat (first | ((first | refine zs1 ?_ | refine zs2 ?_ | refine zs3 ?_ | refine zs4 ?_ | refine zs5 ?_ | refine zs6 [] ?_); conv => whnf))
      refine LEndO.intro (k + 1, (m.set k c).set (l.length - 1 - k) a) hst (by simp only; omega) ((outW_same (outW _ _ _) _ _ _).trans (outW_same _ _ _ _)) ?_
      conv => whnf
      refine Retell.turn ⟨[], 0, [], []⟩ (TurnOk.mk' _ _ [] [] (OutOk.outW (OutOk.lift _) rfl) rfl (by decide) zb trivial trivial rfl) zv zm
    · conv => whnf
      have hm := hr.done (by omega)
      subst hm
      have := VOut.upd (loc := []) (r1 := .tuple []) (r := .tuple []) [(i, .flat true (l.reverse.flatMap encI))] [] [] 0 rfl hd (by simp) rfl (by intro k b hk; simp at hk) (fun σ x hx => hx) (outer := outW h.lift i (.flat true (l.reverse.flatMap encI))) rfl
      have he : (h.sets [(i, Blk.flat true (l.reverse.flatMap encI))]).pushes [] = h.set i (.flat true (l.reverse.flatMap encI)) := by simp [Hp.sets, Hp.pushes]
      rw [he] at this
      exact this
end Go.Proofs.Ytolnajnlcdacmaa

open Go.Vm
namespace Go.Proofs.Ytolnajnlcdacmaa
set_option maxRecDepth 20000
set_option maxHeartbeats 1000000

def jmp (f : Fil) (t : List Int) (lo a : Nat) : Nat → Nat
  | 0 => 0
  | n + 1 => if lo < n + 1 ∧ tAt t a - tAt t n ≤ f.G then jmp f t lo a n else n + 1
theorem jmp_le (f : Fil) (t : List Int) (lo a : Nat) : ∀ n, jmp f t lo a n ≤ n
  | 0 => Nat.le_refl _
  | n + 1 => by
    rw [jmp]; split
    · exact Nat.le_succ_of_le (jmp_le f t lo a n)
    · exact Nat.le_refl _
theorem jmp_ge (f : Fil) (t : List Int) (lo a : Nat) : ∀ n, lo ≤ n → lo ≤ jmp f t lo a n
  | 0, h => h
  | n + 1, h => by
    rw [jmp]; split
    · exact jmp_ge f t lo a n (by omega)
    · exact h
def fewS (f : Fil) (t : List Int) (lo p : Nat) : Nat → Nat → List Int
  | 0, a => [(a : Int)]
  | n + 1, a => if tAt t p - tAt t a < f.Y then (a : Int) :: fewS f t lo p n (jmp f t lo a a) else [(a : Int)]
theorem fewS_ne (f : Fil) (t : List Int) (lo p n a : Nat) : fewS f t lo p n a ≠ [] := by
  cases n with
  | zero => simp [fewS]
  | succ n => rw [fewS]; split <;> simp
theorem fewS_len (f : Fil) (t : List Int) (lo p : Nat) : ∀ n a, (fewS f t lo p n a).length ≤ n + 1
  | 0, a => by simp [fewS]
  | n + 1, a => by
    rw [fewS]; split
    · have := fewS_len f t lo p n (jmp f t lo a a); simp; omega
    · simp
def few (f : Fil) (t : List Int) (p : Nat) : List Int := (fewS f t (fst f t p) p p p).reverse
structure InCh (f : Fil) (t : List Int) (p : Nat) (hi : Nat) : Prop where
  ph : p ≤ hi
  hl : hi < t.length
  hb : bgB f t (fst f t p) = true
  hn : ∀ j, fst f t p < j → j ≤ hi → bgB f t j = false
  hx : hi + 1 < t.length → bgB f t (hi + 1) = true
  hc : chn f t p = some ⟨fst f t p, hi⟩
theorem InCh.of {f : Fil} {t : List Int} {p : Nat} (o : Shw f t p) : ∃ hi, InCh f t p hi := by
  obtain ⟨hi, h1, h2, h3, h4, h5, h6⟩ := chn_some o.toOkt o.lt o.ar
  exact ⟨hi, h2, h3, h4, h5, h6, h1⟩
theorem InCh.gap {f : Fil} {t : List Int} {p hi : Nat} (c : InCh f t p hi) {a : Nat} (h1 : fst f t p < a) (h2 : a ≤ hi) : tAt t a - tAt t (a - 1) ≤ f.G := by
  have := c.hn a h1 h2
  rw [bgB, decide_eq_false_iff_not] at this
  omega
theorem InCh.jmp_lt {f : Fil} {t : List Int} {p hi : Nat} (c : InCh f t p hi) {a : Nat} (h1 : fst f t p < a) (h2 : a ≤ hi) : jmp f t (fst f t p) a a < a := by
  obtain ⟨b, rfl⟩ : ∃ b, a = b + 1 := ⟨a - 1, by omega⟩
  have := c.gap h1 h2
  simp only [Nat.add_sub_cancel] at this
  rw [jmp, if_pos ⟨h1, this⟩]
  exact Nat.lt_succ_of_le (jmp_le f t _ _ _)
theorem Shw.far {f : Fil} {t : List Int} {p : Nat} (o : Shw f t p) : f.Y ≤ tAt t p - tAt t (fst f t p) := by
  have := o.ar
  rw [arB, decide_eq_true_eq] at this
  exact this.1
theorem vc_Fewest_no (f : Fil) (t : List Int) (p : Int) (h : Hp) (hn : f.ps.length ≤ 4000000) (hl : t.length ≤ 4000000) (h0 : showE f t p ≠ 0) : VC Try.prog 30 [vF f, ints t, I p] h (.tuple [.nilslice, I (showE f t p)]) h := by
  refine VC.body Try.func30 rfl Try.ntmps30 Try.call30 (h.grows_refl) rfl ?_; conv => whnf
  repeat' (first | ((first | refine zs1 ?_ | refine zs2 ?_ | refine zs3 ?_ | refine zs4 ?_ | refine zs5 ?_ | refine zs6 [] ?_); conv => whnf) | ((first | apply zi1 | apply zi2 | apply zi3 | apply zi4 | apply zi5) <;> intro _ <;> conv => whnf) | (refine VCall.intro (vc_shown_no f t p _ hn hl h0) ?_; conv => whnf))
  · exact VOut.same rfl
  · rename_i h1; exact absurd (by simpa using h1) h0
theorem vc_Fewest_ok (f : Fil) (t : List Int) (p : Nat) (h : Hp) (hl : t.length ≤ 4000000) (h0 : toldE f t = 0) (o : Shw f t p) : VC Try.prog 30 [vF f, ints t, I p] h (.tuple [ints (few f t p), I 0]) h := by
  have hlen := o.len
  have hn' := o.n
  have hlt := o.lt
  have hY := o.y
  obtain ⟨hi, c⟩ := InCh.of o
  have hfar := o.far
  have hph := c.ph
  have hhl := c.hl
  have hfl := fst_le f t p
  have hfin : few f t p = (fewS f t (fst f t p) p p p).reverse := rfl
  have hff : tAt t (fst f t p) ≤ tAt t p := by omega
  rw [hfin]
  have hfl2 := fewS_len f t (fst f t p) p p p
  obtain ⟨F, hF⟩ : ∃ F, F = fewS f t (fst f t p) p p p := ⟨_, rfl⟩
  rw [← hF] at hfl2 ⊢
  obtain ⟨lo, hlo⟩ : ∃ lo, lo = fst f t p := ⟨_, rfl⟩
  refine VC.body Try.func30 rfl Try.ntmps30 Try.call30 (h.grows_refl) rfl ?_; conv => whnf
  repeat' (first | ((first | refine zs1 ?_ | refine zs2 ?_ | refine zs3 ?_ | refine zs4 ?_ | refine zs5 ?_ | refine zs6 [] ?_); conv => whnf) | ((first | apply zi1 | apply zi2 | apply zi3 | apply zi4 | apply zi5) <;> intro _ <;> conv => whnf) | (refine VCall.intro (vc_shown_ok f t p hi _ hl o h0 c.hc) ?_; conv => whnf))
  rw [← hlo] at hfl hfar hF hff ⊢
  refine VCode.lp (fun x : Nat × List Int => [(1, ints t), (2, I p), (8, .fp (encDk f t)), (9, .ptr (.loc 0) 0), (11, .gl (.loc 1) 1 (x.2 ++ [(x.1 : Int)]).length), (12, I x.1)])
    (fun x => [.flat true [DI lo, DI hi], .flat true ((x.2 ++ [(x.1 : Int)]).flatMap encI)]) (fun x => lo ≤ x.1 ∧ x.1 ≤ p ∧ ∃ n, x.1 ≤ n ∧ F = x.2 ++ fewS f t lo p n x.1) (fun x => x.1) (p, []) ⟨hfl, Nat.le_refl _, p, Nat.le_refl _, hF⟩ ?_ ?_
  · conv => whnf
    refine Retell.turn ⟨[1,2], 3, [], []⟩ (TurnOk.mk' _ _ [] [] (OutOk.lift _) rfl (by decide) zb trivial trivial rfl) zv zm
  · rintro ⟨a, pre⟩ ⟨h1, h2, n, h3, h4⟩
    simp only at h1 h2 h3 h4
    have ha : t[a]? = some t[a] := List.getElem?_eq_getElem (by omega)
    have hp : t[p]? = some t[p] := List.getElem?_eq_getElem (by omega)
    have b1 := o.yr ha
    have b2 := o.yr hp
    have e1 := tAt_eq ha
    have e2 := tAt_eq hp
    have hla : lo < a → jmp f t lo a a < a := by intro h5; have := c.jmp_lt (a := a) (by omega) (by omega); rw [← hlo] at this; exact this
    have hJ := jmp_ge f t lo a a h1
    generalize t[a] = y at ha b1 e1
    generalize t[p] = z at hp b2 e2
    conv => whnf
    repeat' (first | ((first | refine zs1 ?_ | refine zs2 ?_ | refine zs3 ?_ | refine zs4 ?_ | refine zs5 ?_ | refine zs6 [] ?_); conv => whnf) | ((first | apply zi1 | apply zi2 | apply zi3 | apply zi4 | apply zi5) <;> intro _ <;> conv => whnf) | (refine VAny.ix encI_len a rfl rfl ha ?_; conv => whnf) | (refine VAny.ix encI_len p rfl rfl hp ?_; conv => whnf))
    · rename_i h5
      have hlo2 : lo < a := by
        rcases Nat.eq_or_lt_of_le h1 with h6 | h6
        · subst h6; omega
        · exact h6
      have hja := hla hlo2
      obtain ⟨n, rfl⟩ : ∃ m, n = m + 1 := ⟨n - 1, by omega⟩
      rw [fewS, if_pos (by omega)] at h4
      obtain ⟨J, hJe⟩ : ∃ J, J = jmp f t lo a a := ⟨_, rfl⟩
      rw [← hJe] at h4 hja hJ
      have hpl : pre.length ≤ 16 := by
        have := congrArg List.length h4
        simp at this; omega
      refine VCode.lp (fun x : Nat => [(1, ints t), (2, I p), (8, .fp (encDk f t)), (9, .ptr (.loc 0) 0), (11, .gl (.loc 1) 1 (pre ++ [(a : Int)]).length), (12, I a), (13, I x)])
        (fun _ => [.flat true [DI lo, DI hi], .flat true ((pre ++ [(a : Int)]).flatMap encI)]) (fun x => lo ≤ x ∧ x ≤ a ∧ J = jmp f t lo a x) (fun x => x) a ⟨h1, Nat.le_refl _, hJe⟩ ?_ ?_
      · conv => whnf
        refine Retell.turn ⟨[0,1], 2, [], []⟩ (TurnOk.mk' _ _ [] [] (OutOk.lift _) rfl (by decide) zb trivial trivial rfl) zv zm
      · rintro x ⟨g1, g2, g3⟩
        have hx : t[x - 1]? = some t[x - 1] := List.getElem?_eq_getElem (by omega)
        have b3 := o.yr hx
        have e3 := tAt_eq hx
        generalize t[x - 1] = w at hx b3 e3
        have hne : ¬ (lo < x ∧ y - w ≤ f.G) → J = x := by
          intro hg
          rw [g3]
          cases x with
          | zero => rfl
          | succ x =>
            simp only [Nat.add_sub_cancel] at e3
            rw [jmp, if_neg (by omega)]
        have hfin2 : J = x → F = (pre ++ [(a : Int)]) ++ fewS f t lo p n x := by intro hg; rw [h4, hg, List.append_assoc]; rfl
        conv => whnf
        repeat' (first | ((first | refine zs1 ?_ | refine zs2 ?_ | refine zs3 ?_ | refine zs4 ?_ | refine zs5 ?_ | refine zs6 [] ?_); conv => whnf) | ((first | apply zi1 | apply zi2 | apply zi3 | apply zi4 | apply zi5) <;> intro _ <;> conv => whnf) | (refine VAny.ix encI_len a rfl rfl ha ?_; conv => whnf) | (refine VAny.ix encI_len (x - 1) (by omega) rfl hx ?_; conv => whnf))
        · obtain ⟨x, rfl⟩ : ∃ m, x = m + 1 := ⟨x - 1, by omega⟩
          simp only [Nat.add_sub_cancel] at e3
          rw [jmp, if_pos (by omega)] at g3
          refine LEnd.intro x ⟨by omega, by omega, g3⟩ (by omega) ?_
          conv => whnf
          refine Retell.turn ⟨[0,1], 2, [], []⟩ (TurnOk.mk' _ _ [] [] (OutOk.lift _) rfl (by decide) zb trivial trivial rfl) zv zm
        · have hJx := hne (by omega)
          refine VMem.app1 (x : Int) encI_len rfl rfl rfl rfl rfl (by simp; omega) ?_
          conv => whnf
          repeat (first | ((first | refine zs1 ?_ | refine zs2 ?_ | refine zs3 ?_ | refine zs4 ?_ | refine zs5 ?_ | refine zs6 [] ?_); conv => whnf))
          refine LEnd.intro (x, pre ++ [(a : Int)]) ⟨by omega, by omega, n, by omega, hfin2 hJx⟩ (by simp only; omega) ?_
          conv => whnf
          rw [List.length_append (bs := [(x : Int)])]
          refine Retell.turn ⟨[0,3], 4, [], []⟩ (TurnOk.mk' _ _ [] [] (OutOk.lift _) rfl (by decide) zb trivial trivial rfl) zv zm
        · have hJx := hne (by omega)
          refine VMem.app1 (x : Int) encI_len rfl rfl rfl rfl rfl (by simp; omega) ?_
          conv => whnf
          repeat (first | ((first | refine zs1 ?_ | refine zs2 ?_ | refine zs3 ?_ | refine zs4 ?_ | refine zs5 ?_ | refine zs6 [] ?_); conv => whnf))
          refine LEnd.intro (x, pre ++ [(a : Int)]) ⟨by omega, by omega, n, by omega, hfin2 hJx⟩ (by simp only; omega) ?_
          conv => whnf
          rw [List.length_append (bs := [(x : Int)])]
          refine Retell.turn ⟨[0,3], 4, [], []⟩ (TurnOk.mk' _ _ [] [] (OutOk.lift _) rfl (by decide) zb trivial trivial rfl) zv zm
    · have hF2 : F = pre ++ [(a : Int)] := by
        rw [h4]
        cases n with
        | zero => rfl
        | succ n => rw [fewS, if_neg (by omega)]
      rw [← hF2]
      refine VMem.make (n := F.length) (0 : Int) encI_len rfl rfl rfl rfl rfl rfl (by omega) ?_
      conv => whnf
      repeat (first | ((first | refine zs1 ?_ | refine zs2 ?_ | refine zs3 ?_ | refine zs4 ?_ | refine zs5 ?_ | refine zs6 [] ?_); conv => whnf))
      refine VMem.copyGl (l2 := F) encI_len rfl rfl rfl (by simp) rfl rfl ?_
      conv => whnf
      repeat (first | ((first | refine zs1 ?_ | refine zs2 ?_ | refine zs3 ?_ | refine zs4 ?_ | refine zs5 ?_ | refine zs6 [] ?_); conv => whnf))
      refine VCall.intro (vc_reverse F (.loc 2) _ rfl (by omega)) ?_
      conv => whnf
      repeat (first | ((first | refine zs1 ?_ | refine zs2 ?_ | refine zs3 ?_ | refine zs4 ?_ | refine zs5 ?_ | refine zs6 [] ?_); conv => whnf))
      rw [show ints F.reverse = .fs 1 F.length (F.reverse.flatMap encI) from by unfold ints; rw [List.length_reverse]]
      refine VOut.data 3 [(2, F.reverse.flatMap encI)] [] rfl zf (by exact FmAll.nil) zv
end Go.Proofs.Ytolnajnlcdacmaa

open Go.Vm
namespace Go.Proofs.Ytolnajnlcdacmaa
set_option maxRecDepth 20000
set_option maxHeartbeats 1000000

theorem fewS_mem {f : Fil} {t : List Int} {lo p : Nat} (hj : ∀ b, lo < b → b ≤ p → jmp f t lo b b < b) (hY : 1 ≤ f.Y) (hf : f.Y ≤ tAt t p - tAt t lo) : ∀ n a, lo ≤ a → a ≤ p → (∀ x ∈ fewS f t lo p n a, (lo : Int) ≤ x ∧ x ≤ a) ∧ (fewS f t lo p n a).Pairwise (· > ·)
  | 0, a, h1, h2 => by simp [fewS]; omega
  | n + 1, a, h1, h2 => by
    rw [fewS]
    split
    · rename_i h3
      have hne : lo < a := by
        rcases Nat.eq_or_lt_of_le h1 with h6 | h6
        · subst h6; omega
        · exact h6
      have h4 := hj a hne h2
      obtain ⟨i1, i2⟩ := fewS_mem hj hY hf n (jmp f t lo a a) (jmp_ge f t lo a a h1) (by omega)
      refine ⟨fun x hx => ?_, List.pairwise_cons.2 ⟨fun x hx => ?_, i2⟩⟩
      · rcases List.mem_cons.1 hx with rfl | hx
        · omega
        · have := i1 x hx; omega
      · have := i1 x hx; omega
    · simp; omega
theorem InCh.jmps {f : Fil} {t : List Int} {p hi : Nat} (c : InCh f t p hi) : ∀ b, fst f t p < b → b ≤ p → jmp f t (fst f t p) b b < b := fun b h1 h2 => by
  have := c.ph
  exact c.jmp_lt h1 (by omega)
theorem few_mem {f : Fil} {t : List Int} {p : Nat} (o : Shw f t p) : ∀ x ∈ few f t p, (fst f t p : Int) ≤ x ∧ x ≤ p := by
  obtain ⟨hi, c⟩ := InCh.of o
  intro x hx
  exact (fewS_mem c.jmps o.y.1 o.far p p (fst_le f t p) (Nat.le_refl _)).1 x (by simpa [few] using hx)
theorem few_asc {f : Fil} {t : List Int} {p : Nat} (o : Shw f t p) : (few f t p).Pairwise (· < ·) := by
  obtain ⟨hi, c⟩ := InCh.of o
  have := (fewS_mem c.jmps o.y.1 o.far p p (fst_le f t p) (Nat.le_refl _)).2
  rw [few, List.pairwise_reverse]
  exact this
theorem few_len {f : Fil} {t : List Int} {p : Nat} (o : Shw f t p) : 2 ≤ (few f t p).length ∧ (few f t p).length ≤ p + 1 := by
  have h1 := fewS_len f t (fst f t p) p p p
  refine ⟨?_, by simpa [few] using h1⟩
  rw [few, List.length_reverse]
  have h2 := o.far
  have h3 := o.y.1
  have hp : 0 < p := by
    rcases Nat.eq_zero_or_pos p with rfl | hp
    · have := fst_le f t 0
      rw [show fst f t 0 = 0 from by omega] at h2; omega
    · exact hp
  obtain ⟨q, rfl⟩ : ∃ q, p = q + 1 := ⟨p - 1, by omega⟩
  rw [fewS, if_pos (by omega)]
  have := fewS_ne f t (fst f t (q + 1)) (q + 1) q (jmp f t (fst f t (q + 1)) (q + 1) (q + 1))
  have := List.length_pos_iff.2 this
  simp only [List.length_cons]; omega
def win (f : Fil) (t : List Int) (p : Nat) : List Int := (((few f t p).drop 1).take ((few f t p).length - 2)).map fun x => tAt t (x.toNat - 1)
theorem vc_Windows_no (f : Fil) (t : List Int) (p : Int) (h : Hp) (hn : f.ps.length ≤ 4000000) (hl : t.length ≤ 4000000) (h0 : showE f t p ≠ 0) : VC Try.prog 46 [vF f, ints t, I p] h (.tuple [.nilslice, I (showE f t p)]) h := by
  refine VC.body Try.func46 rfl Try.ntmps46 Try.call46 (h.grows_refl) rfl ?_; conv => whnf
  repeat' (first | ((first | refine zs1 ?_ | refine zs2 ?_ | refine zs3 ?_ | refine zs4 ?_ | refine zs5 ?_ | refine zs6 [] ?_); conv => whnf) | ((first | apply zi1 | apply zi2 | apply zi3 | apply zi4 | apply zi5) <;> intro _ <;> conv => whnf) | (refine VCall.intro (vc_Fewest_no f t p _ hn hl h0) ?_; conv => whnf))
  · exact VOut.same rfl
  · rename_i h1; exact absurd (by simpa using h1) h0
theorem vc_Windows_ok (f : Fil) (t : List Int) (p : Nat) (h : Hp) (hl : t.length ≤ 4000000) (h0 : toldE f t = 0) (o : Shw f t p) : VC Try.prog 46 [vF f, ints t, I p] h (.tuple [ints (win f t p), I 0]) h := by
  have hlen := o.len
  have hn' := o.n
  have hlt := o.lt
  have hfl := few_len o
  have hfm := few_mem o
  have hfa := few_asc o
  unfold win
  obtain ⟨F, hF⟩ : ∃ F, F = few f t p := ⟨_, rfl⟩
  rw [← hF] at hfl hfm hfa ⊢
  refine VC.body Try.func46 rfl Try.ntmps46 Try.call46 (h.grows_refl) rfl ?_; conv => whnf
  repeat' (first | ((first | refine zs1 ?_ | refine zs2 ?_ | refine zs3 ?_ | refine zs4 ?_ | refine zs5 ?_ | refine zs6 [] ?_); conv => whnf) | ((first | apply zi1 | apply zi2 | apply zi3 | apply zi4 | apply zi5) <;> intro _ <;> conv => whnf) | (refine VCall.intro (vc_Fewest_ok f t p _ hl h0 o) ?_; conv => whnf))
  rw [← hF]
  conv => whnf
  repeat (first | ((first | refine zs1 ?_ | refine zs2 ?_ | refine zs3 ?_ | refine zs4 ?_ | refine zs5 ?_ | refine zs6 [] ?_); conv => whnf))
  refine VAny.sub encI_len rfl (by omega) ?_
  obtain ⟨M, hM⟩ : ∃ M, M = (F.drop 1).take (F.length - 2) := ⟨_, rfl⟩
  have hM2 : (F.drop (1 : Int).toNat).take ((F.length : Int) - 1 - 1).toNat = M := by rw [hM]; congr 1; omega
  have hml : M.length = F.length - 2 := by rw [hM]; simp; omega
  rw [hM2, ← hM]
  have hmm : ∀ x ∈ M, 1 ≤ x ∧ x ≤ p := by
    intro x hx
    have hx2 : x ∈ F := by rw [hM] at hx; exact List.mem_of_mem_drop (List.mem_of_mem_take hx)
    obtain ⟨a, r, rfl⟩ : ∃ a r, F = a :: r := by
      cases F with
      | nil => simp at hfl
      | cons a r => exact ⟨a, r, rfl⟩
    rw [hM] at hx
    have hx3 : x ∈ r := by simpa using List.mem_of_mem_take hx
    have h1 := (List.pairwise_cons.1 hfa).1 x hx3
    have h2 := hfm a (by simp)
    have h3 := hfm x hx2
    omega
  conv => whnf
  refine VCode.lp (fun k : Nat => [(1, ints t), (10, .gl (.loc 0) 1 k), (27, ints M), (28, I M.length), (29, I k)]) (fun k => [.flat true (((M.take k).map fun x => tAt t (x.toNat - 1)).flatMap encI)]) (fun k => k ≤ M.length) (fun k => M.length - k) 0 (Nat.zero_le _) ?_ ?_
  · conv => whnf
    refine Retell.turn ⟨[1], 1, [], []⟩ (TurnOk.mk' _ _ [] [] (OutOk.lift _) rfl (by decide) zb trivial trivial rfl) zv zm
  · intro k hk
    conv => whnf
    refine VIte.dec (fun h3 => ?_) (fun h3 => ?_)
    · have hx : M[k]? = some M[k] := List.getElem?_eq_getElem (by omega)
      have hxm := hmm M[k] (List.getElem_mem (by omega))
      have hts : M.take (k + 1) = M.take k ++ [M[k]] := by rw [List.take_add_one, hx]; rfl
      generalize M[k] = x at hx hxm hts
      have hy : t[x.toNat - 1]? = some t[x.toNat - 1] := List.getElem?_eq_getElem (by omega)
      have e1 := tAt_eq hy
      generalize t[x.toNat - 1] = y at hy e1
      have hlk : ((M.take k).map fun x => tAt t (x.toNat - 1)).length = k := by simp; omega
      conv => whnf
      repeat' (first | ((first | refine zs1 ?_ | refine zs2 ?_ | refine zs3 ?_ | refine zs4 ?_ | refine zs5 ?_ | refine zs6 [] ?_); conv => whnf) | ((first | apply zi1 | apply zi2 | apply zi3 | apply zi4 | apply zi5) <;> intro _ <;> conv => whnf) | (refine VAny.ix encI_len k rfl rfl hx ?_; conv => whnf) | (refine VAny.ix encI_len (x.toNat - 1) (by omega) rfl hy ?_; conv => whnf))
      refine VMem.app1 (l := (M.take k).map fun x => tAt t (x.toNat - 1)) y encI_len rfl rfl rfl hlk.symm rfl (by omega) ?_
      conv => whnf
      repeat (first | ((first | refine zs1 ?_ | refine zs2 ?_ | refine zs3 ?_ | refine zs4 ?_ | refine zs5 ?_ | refine zs6 [] ?_); conv => whnf))
      refine LEnd.intro (k + 1) (by omega) (by omega) ?_
      conv => whnf
      rw [hts, List.map_append, List.map_cons, e1, List.map_nil]
      refine Retell.turn ⟨[2], 3, [], []⟩ (TurnOk.mk' _ _ [] [] (OutOk.lift _) rfl (by decide) zb trivial trivial rfl) zv zm
    · conv => whnf
      have hk' : k = M.length := by omega
      subst hk'
      rw [List.take_of_length_le (Nat.le_refl _), show ints (M.map fun x => tAt t (x.toNat - 1)) = .fs 1 M.length ((M.map fun x => tAt t (x.toNat - 1)).flatMap encI) from by unfold ints; rw [List.length_map]]
      repeat (first | ((first | refine zs1 ?_ | refine zs2 ?_ | refine zs3 ?_ | refine zs4 ?_ | refine zs5 ?_ | refine zs6 [] ?_); conv => whnf))
      refine VOut.data 1 [(0, (M.map fun x => tAt t (x.toNat - 1)).flatMap encI)] [] rfl zf (by exact FmAll.nil) zv
end Go.Proofs.Ytolnajnlcdacmaa

open Go.Vm
namespace Go.Proofs.Ytolnajnlcdacmaa
set_option maxRecDepth 20000
set_option maxHeartbeats 1000000

def inR (n : Nat) (l : List Int) : Bool := l.all fun x => decide (0 ≤ x ∧ x ≤ (n : Int) - 1)
theorem eachS_all (q : Int → Bool) : ∀ (l : List Int) (k : Nat), eachS (fun _ x => q x) k l = l.all q
  | [], _ => rfl
  | x :: l, k => by rw [eachS, eachS_all q l, List.all_cons]
theorem inR_mem {n : Nat} {l : List Int} (h : inR n l = true) {x : Int} (hx : x ∈ l) : 0 ≤ x ∧ x < n := by
  have := List.all_eq_true.1 h x hx
  rw [decide_eq_true_eq] at this; omega
theorem inR_get {n : Nat} {l : List Int} (h : inR n l = true) {i : Nat} {x : Int} (hx : l[i]? = some x) : 0 ≤ x ∧ x < n := inR_mem h (List.mem_of_getElem? hx)
def nx (f : Fil) (t l : List Int) (i : Nat) (x : Int) : Bool := decide (i = 0 ∨ (l.getD (i - 1) 0 < x ∧ tAt t x.toNat - tAt t (l.getD (i - 1) 0).toNat ≤ f.G))
def shB (f : Fil) (t : List Int) (p : Nat) (l : List Int) : Bool :=
  decide (l.length ≠ 0 ∧ l.getD (l.length - 1) 0 = p ∧ (fst f t p : Int) ≤ l.getD 0 0 ∧ f.Y ≤ tAt t p - tAt t (l.getD 0 0).toNat) && eachS (nx f t l) 0 l
theorem vc_sh1 (t : List Int) (i : Nat) (x : Int) (h : Hp) (hl : t.length ≤ 4000000) : VC Try.prog 80 [I i, I x, .fp [dints t]] h (B (decide (0 ≤ x ∧ x ≤ (t.length : Int) - 1))) h := by
  refine VC.body Try.func80 rfl Try.ntmps80 Try.call80 (h.grows_refl) rfl ?_; conv => whnf
  repeat' (first | ((first | refine zs1 ?_ | refine zs2 ?_ | refine zs3 ?_ | refine zs4 ?_ | refine zs5 ?_ | refine zs6 [] ?_); conv => whnf) | ((first | apply zi1 | apply zi2 | apply zi3 | apply zi4 | apply zi5) <;> intro _ <;> conv => whnf) | (refine VCall.intro (vc_from _ _ _ _) ?_; conv => whnf))
  all_goals (refine VOut.dec ?_; first | (simp only [decide_eq_true_eq]; omega) | (simp; omega) | (simp; done))
theorem vc_sh2 (f : Fil) (t l : List Int) (i : Nat) (x : Int) (h : Hp) (o : Okt f t) (hl : l.length ≤ 4000000) (hr : inR t.length l = true) (hx : l[i]? = some x) : VC Try.prog 81 [I i, I x, .fp [dints l], .fp [dints t], .fp [.pt (encDk f t)]] h (B (nx f t l i x)) h := by
  have hil : i < l.length := by obtain ⟨h1, _⟩ := List.getElem?_eq_some_iff.1 hx; exact h1
  have hz : l[i - 1]? = some l[i - 1] := List.getElem?_eq_getElem (by omega)
  have b1 := inR_get hr hx
  have b2 := inR_get hr hz
  have e2 : l.getD (i - 1) 0 = l[i - 1] := by simp [hz]
  unfold nx
  rw [e2]
  generalize l[i - 1] = z at hz b2
  have hy : t[x.toNat]? = some t[x.toNat] := List.getElem?_eq_getElem (by omega)
  have hw : t[z.toNat]? = some t[z.toNat] := List.getElem?_eq_getElem (by omega)
  have b3 := o.yr hy
  have b4 := o.yr hw
  rw [tAt_eq hy, tAt_eq hw]
  generalize t[x.toNat] = y at hy b3
  generalize t[z.toNat] = w at hw b4
  refine VC.body Try.func81 rfl Try.ntmps81 Try.call81 (h.grows_refl) rfl ?_; conv => whnf
  repeat' (first | ((first | refine zs1 ?_ | refine zs2 ?_ | refine zs3 ?_ | refine zs4 ?_ | refine zs5 ?_ | refine zs6 [] ?_); conv => whnf) | ((first | apply zi1 | apply zi2 | apply zi3 | apply zi4 | apply zi5) <;> intro _ <;> conv => whnf) | (refine VAny.ix encI_len (i - 1) (by omega) rfl hz ?_; conv => whnf) | (refine VAny.ix encI_len x.toNat (by omega) rfl hy ?_; conv => whnf) | (refine VAny.ix encI_len z.toNat (by omega) rfl hw ?_; conv => whnf))
  all_goals (refine VOut.dec ?_; first | (simp only [decide_eq_true_eq]; omega) | (simp; omega) | (simp; done))
theorem vc_Shows_no (f : Fil) (t : List Int) (p : Int) (l : List Int) (h : Hp) (hn : f.ps.length ≤ 4000000) (hl : t.length ≤ 4000000) (h0 : showE f t p ≠ 0) : VC Try.prog 49 [vF f, ints t, I p, ints l] h (.tuple [B false, I (showE f t p)]) h := by
  refine VC.body Try.func49 rfl Try.ntmps49 Try.call49 (h.grows_refl) rfl ?_; conv => whnf
  repeat' (first | ((first | refine zs1 ?_ | refine zs2 ?_ | refine zs3 ?_ | refine zs4 ?_ | refine zs5 ?_ | refine zs6 [] ?_); conv => whnf) | ((first | apply zi1 | apply zi2 | apply zi3 | apply zi4 | apply zi5) <;> intro _ <;> conv => whnf) | (refine VCall.intro (vc_shown_no f t p _ hn hl h0) ?_; conv => whnf))
  · exact VOut.same rfl
  all_goals (rename_i h1; exact absurd (by simpa using h1) h0)
theorem vc_Shows_ok (f : Fil) (t : List Int) (p : Nat) (l : List Int) (h : Hp) (hl : t.length ≤ 4000000) (hl2 : l.length ≤ 4000000) (h0 : toldE f t = 0) (o : Shw f t p) :
    VC Try.prog 49 [vF f, ints t, I p, ints l] h (.tuple [B (inR t.length l && shB f t p l), I (bif inR t.length l then 0 else 2)]) h := by
  have hlen := o.len
  have hn' := o.n
  have hlt := o.lt
  obtain ⟨hi, c⟩ := InCh.of o
  refine VC.bodyC 2 Try.func49 rfl Try.ntmps49 Try.call49 (h.grows_refl) rfl ?_; conv => whnf
  repeat' (first | ((first | refine zs1 ?_ | refine zs2 ?_ | refine zs3 ?_ | refine zs4 ?_ | refine zs5 ?_ | refine zs6 [] ?_); conv => whnf) | ((first | apply zi1 | apply zi2 | apply zi3 | apply zi4 | apply zi5) <;> intro _ <;> conv => whnf) | (refine VCall.intro (vc_shown_ok f t p hi _ hl o h0 c.hc) ?_; conv => whnf))
  refine VCut.at [(1, ints t), (2, I p), (4, .fp (encF f)), (5, .fp [dints t]), (7, .fp [dints l]), (8, B false), (9, I 0), (10, .fp [.pt (encDk f t)]), (11, .fp [DI (fst f t p), DI hi]), (12, I 0)] [] ?_ ?_
  · conv => whnf
    refine Retell.turn ⟨[], 5, [(0, encF f), (1, [dints t]), (2, [dints l]), (3, [.pt (encDk f t)]), (4, [DI (fst f t p), DI hi])], []⟩ (TurnOk.mk' _ _ [(0, encF f), (1, [dints t]), (2, [dints l]), (3, [.pt (encDk f t)]), (4, [DI (fst f t p), DI hi])] [] (OutOk.lift _) rfl (by decide) zb zf trivial rfl) zv zm
  · conv => whnf
    repeat (first | ((first | refine zs1 ?_ | refine zs2 ?_ | refine zs3 ?_ | refine zs4 ?_ | refine zs5 ?_ | refine zs6 [] ?_); conv => whnf))
    refine VCall.intro (vc_each l (fun _ x => decide (0 ≤ x ∧ x ≤ (t.length : Int) - 1)) 80 [.pt [dints t]] hl2 (fun i x h hx => vc_sh1 t i x h hl) _) ?_
    rw [eachS_all]
    rw [show (l.all fun x => decide (0 ≤ x ∧ x ≤ (t.length : Int) - 1)) = inR t.length l from rfl]
    cases hR : inR t.length l
    · conv => whnf
      repeat (first | ((first | refine zs1 ?_ | refine zs2 ?_ | refine zs3 ?_ | refine zs4 ?_ | refine zs5 ?_ | refine zs6 [] ?_); conv => whnf))
      exact VOut.same rfl
    · rw [Bool.true_and, shB]
      conv => whnf
      rcases Nat.eq_zero_or_pos l.length with hz | hz
      · rw [decide_eq_false (by omega), Bool.false_and]
        repeat' (first | ((first | refine zs1 ?_ | refine zs2 ?_ | refine zs3 ?_ | refine zs4 ?_ | refine zs5 ?_ | refine zs6 [] ?_); conv => whnf) | ((first | apply zi1 | apply zi2 | apply zi3 | apply zi4 | apply zi5) <;> intro _ <;> conv => whnf))
        · exact VOut.same rfl
        all_goals omega
      · have ha : l[0]? = some l[0] := List.getElem?_eq_getElem (by omega)
        have hb : l[l.length - 1]? = some l[l.length - 1] := List.getElem?_eq_getElem (by omega)
        have ra := inR_get hR ha
        have rb := inR_get hR hb
        have e1 : l.getD 0 0 = l[0] := by simp [ha]
        have e2 : l.getD (l.length - 1) 0 = l[l.length - 1] := by simp [hb]
        rw [e1, e2]
        generalize l[0] = a at ha ra
        generalize l[l.length - 1] = z at hb rb
        have hy : t[p]? = some t[p] := List.getElem?_eq_getElem (by omega)
        have hw : t[a.toNat]? = some t[a.toNat] := List.getElem?_eq_getElem (by omega)
        have b3 := o.yr hy
        have b4 := o.yr hw
        rw [tAt_eq hy, tAt_eq hw]
        generalize t[p] = y at hy b3
        generalize t[a.toNat] = w at hw b4
        have key : VC Try.prog 79 [ints l, .func (.func 81) [] (D.vs [.pt [dints l], .pt [dints t], .pt [.pt (encDk f t)]])] ⟨h.lift, []⟩ (B (eachS (nx f t l) 0 l)) ⟨h.lift, []⟩ :=
          vc_each l (nx f t l) 81 [.pt [dints l], .pt [dints t], .pt [.pt (encDk f t)]] hl2 (fun i x h hx => vc_sh2 f t l i x h o.toOkt hl2 hR hx) _
        repeat' (first | ((first | refine zs1 ?_ | refine zs2 ?_ | refine zs3 ?_ | refine zs4 ?_ | refine zs5 ?_ | refine zs6 [] ?_); conv => whnf) | ((first | apply zi1 | apply zi2 | apply zi3 | apply zi4 | apply zi5) <;> intro _ <;> conv => whnf) | (refine VAny.ix encI_len (l.length - 1) (by omega) rfl hb ?_; conv => whnf) | (refine VAny.ix encI_len 0 (by omega) rfl ha ?_; conv => whnf) | (refine VAny.ix encI_len p (by omega) rfl hy ?_; conv => whnf) | (refine VAny.ix encI_len a.toNat (by omega) rfl hw ?_; conv => whnf) | (refine VCall.intro key ?_; conv => whnf))
        all_goals (try omega)
        all_goals (first | (rw [decide_eq_true (by omega), Bool.true_and]; exact VOut.same rfl) | (rw [decide_eq_false (by omega), Bool.false_and]; exact VOut.same rfl))
end Go.Proofs.Ytolnajnlcdacmaa

open Go.Vm
namespace Go.Proofs.Ytolnajnlcdacmaa
set_option maxRecDepth 20000
set_option maxHeartbeats 1000000

theorem eachS_iff {q : Nat → Int → Bool} : ∀ {l : List Int} {k : Nat}, eachS q k l = true ↔ ∀ i x, l[i]? = some x → q (k + i) x = true
  | [], k => by simp [eachS]
  | a :: l, k => by
    rw [eachS, Bool.and_eq_true, eachS_iff]
    constructor
    · rintro ⟨h1, h2⟩ i x hx
      cases i with
      | zero => simp at hx; subst hx; exact h1
      | succ i => have := h2 i x (by simpa using hx); rwa [Nat.add_assoc, Nat.add_comm 1 i] at this
    · intro h
      refine ⟨h 0 a rfl, fun i x hx => ?_⟩
      have := h (i + 1) x (by simpa using hx)
      rwa [Nat.add_assoc, Nat.add_comm 1 i]
theorem eachS_drop {q : Nat → Int → Bool} {l : List Int} {k : Nat} {x : Int} (hx : l[k]? = some x) : eachS q k (l.drop k) = (q k x && eachS q (k + 1) (l.drop (k + 1))) := by
  obtain ⟨h1, rfl⟩ := List.getElem?_eq_some_iff.1 hx
  rw [List.drop_eq_getElem_cons h1, eachS]
theorem nx_asc {f : Fil} {t l : List Int} (h : eachS (nx f t l) 0 l = true) {i : Nat} : ∀ {j : Nat} {x y : Int}, i < j → l[i]? = some x → l[j]? = some y → x < y
  | 0, _, _, h1, _, _ => by omega
  | j + 1, x, y, h1, hx, hy => by
    have hlt : j + 1 < l.length := by obtain ⟨h2, _⟩ := List.getElem?_eq_some_iff.1 hy; exact h2
    have hz : l[j]? = some l[j] := List.getElem?_eq_getElem (by omega)
    have h2 := eachS_iff.1 h (j + 1) y hy
    rw [Nat.zero_add, nx, decide_eq_true_eq] at h2
    have e1 : l.getD (j + 1 - 1) 0 = l[j] := by simp [hz]
    rw [e1] at h2
    have h3 : l[j] < y := by omega
    rcases Nat.eq_or_lt_of_le (Nat.le_of_lt_succ h1) with h4 | h4
    · subst h4; rw [hz] at hx; cases hx; exact h3
    · exact Int.lt_trans (nx_asc h h4 hx hz) h3
def rs (f : Fil) (t l : List Int) (p : Nat) (i : Nat) (x : Int) : Bool := decide (x ≤ p ∧ fst f t x.toNat = fst f t p ∧ (i = 0 ∨ (l.getD (i - 1) 0 < x ∧ tAt t x.toNat - tAt t (l.getD (i - 1) 0).toNat ≤ f.G)))
theorem rs_eq {f : Fil} {t l : List Int} {p : Nat} (o : Shw f t p) (hR : inR t.length l = true) {a : Int} (ha : l[0]? = some a) (hb : l[l.length - 1]? = some (p : Int)) :
    (decide ((fst f t p : Int) ≤ a) && eachS (nx f t l) 0 l) = eachS (rs f t l p) 0 l := by
  obtain ⟨hi, c⟩ := InCh.of o
  rw [Bool.eq_iff_iff, Bool.and_eq_true, decide_eq_true_eq]
  constructor
  · rintro ⟨h1, h2⟩
    refine eachS_iff.2 fun i x hx => ?_
    have h3 := eachS_iff.1 h2 i x hx
    have rx := inR_get hR hx
    rw [Nat.zero_add] at h3 ⊢
    unfold nx at h3
    unfold rs
    rw [decide_eq_true_eq] at h3 ⊢
    have hle : x ≤ p := by
      obtain ⟨h4, _⟩ := List.getElem?_eq_some_iff.1 hx
      rcases Nat.eq_or_lt_of_le (Nat.le_sub_one_of_lt h4) with h5 | h5
      · subst h5; rw [hb] at hx; cases hx; exact Int.le_refl _
      · exact Int.le_of_lt (nx_asc h2 h5 hx hb)
    have hge : a ≤ x := by
      rcases Nat.eq_zero_or_pos i with h5 | h5
      · subst h5; rw [ha] at hx; cases hx; exact Int.le_refl _
      · exact Int.le_of_lt (nx_asc h2 h5 ha hx)
    refine ⟨hle, ?_, h3⟩
    have := c.ph
    exact fst_seg c.hb c.hn x.toNat (by omega) (by omega)
  · intro h
    constructor
    · have h1 := eachS_iff.1 h 0 a ha
      have ra := inR_get hR ha
      unfold rs at h1
      rw [decide_eq_true_eq] at h1
      have h2 := fst_le f t a.toNat
      omega
    · refine eachS_iff.2 fun i x hx => ?_
      have h1 := eachS_iff.1 h i x hx
      unfold rs at h1
      unfold nx
      rw [decide_eq_true_eq] at h1 ⊢
      exact h1.2.2
theorem shB_eq {f : Fil} {t l : List Int} {p : Nat} (o : Shw f t p) (hR : inR t.length l = true) :
    shB f t p l = (decide (l.length ≠ 0 ∧ l.getD (l.length - 1) 0 = p ∧ f.Y ≤ tAt t p - tAt t (l.getD 0 0).toNat) && eachS (rs f t l p) 0 l) := by
  unfold shB
  by_cases h0 : l.length = 0
  · rw [decide_eq_false (by omega), decide_eq_false (by omega)]; rfl
  · have ha : l[0]? = some (l.getD 0 0) := by rw [List.getElem?_eq_getElem (by omega)]; simp [List.getElem?_eq_getElem (show 0 < l.length by omega)]
    have hb : l[l.length - 1]? = some (l.getD (l.length - 1) 0) := by rw [List.getElem?_eq_getElem (by omega)]; simp [List.getElem?_eq_getElem (show l.length - 1 < l.length by omega)]
    by_cases h1 : l.getD (l.length - 1) 0 = p
    · rw [h1] at hb
      rw [← rs_eq o hR ha hb, ← Bool.and_assoc]
      congr 1
      rw [Bool.eq_iff_iff, Bool.and_eq_true, decide_eq_true_eq, decide_eq_true_eq, decide_eq_true_eq]
      constructor
      · rintro ⟨h2, h3, h4, h5⟩; exact ⟨⟨h2, h3, h5⟩, h4⟩
      · rintro ⟨⟨h2, h3, h5⟩, h4⟩; exact ⟨h2, h3, h4, h5⟩
    · rw [decide_eq_false (by intro h; exact h1 h.2.1), decide_eq_false (by intro h; exact h1 h.2.1)]; rfl
theorem vc_rShows_no (f : Fil) (t : List Int) (p : Int) (l : List Int) (h : Hp) (hn : f.ps.length ≤ 4000000) (hl : t.length ≤ 4000000) (h0 : showE f t p ≠ 0) : VC Try.prog 47 [vF f, ints t, I p, ints l] h (.tuple [B false, I (showE f t p)]) h := by
  refine VC.body Try.func47 rfl Try.ntmps47 Try.call47 (h.grows_refl) rfl ?_; conv => whnf
  repeat' (first | ((first | refine zs1 ?_ | refine zs2 ?_ | refine zs3 ?_ | refine zs4 ?_ | refine zs5 ?_ | refine zs6 [] ?_); conv => whnf) | ((first | apply zi1 | apply zi2 | apply zi3 | apply zi4 | apply zi5) <;> intro _ <;> conv => whnf) | (refine VCall.intro (vc_Shown f t p _ hn hl) ?_; conv => whnf))
  · exact VOut.same rfl
  all_goals (rename_i h1; exact absurd (by simpa using h1) h0)
theorem inR_drop {n : Nat} {l : List Int} {k : Nat} {x : Int} (hx : l[k]? = some x) : inR n (l.drop k) = (decide (0 ≤ x ∧ x ≤ (n : Int) - 1) && inR n (l.drop (k + 1))) := by
  obtain ⟨h1, rfl⟩ := List.getElem?_eq_some_iff.1 hx
  unfold inR
  rw [List.drop_eq_getElem_cons h1, List.all_cons]
theorem vc_rShows_ok (f : Fil) (t : List Int) (p : Nat) (l : List Int) (h : Hp) (hl : t.length ≤ 4000000) (hl2 : l.length ≤ 4000000) (h0 : showE f t p = 0) (o : Shw f t p) :
    VC Try.prog 47 [vF f, ints t, I p, ints l] h (.tuple [B (inR t.length l && shB f t p l), I (bif inR t.length l then 0 else 2)]) h := by
  have hlen := o.len
  have hn' := o.n
  have hlt := o.lt
  have hS : ∀ h, VC Try.prog 77 [vF f, ints t, I p] h (I 0) h := fun h => h0 ▸ vc_Shown f t p h (by omega) hl
  refine VC.body Try.func47 rfl Try.ntmps47 Try.call47 (h.grows_refl) rfl ?_; conv => whnf
  repeat' (first | ((first | refine zs1 ?_ | refine zs2 ?_ | refine zs3 ?_ | refine zs4 ?_ | refine zs5 ?_ | refine zs6 [] ?_); conv => whnf) | ((first | apply zi1 | apply zi2 | apply zi3 | apply zi4 | apply zi5) <;> intro _ <;> conv => whnf) | (refine VCall.intro (hS _) ?_; conv => whnf))
  refine VCode.lp (fun k : Nat => [(1, ints t), (2, I p), (3, ints l), (4, .ptr (.loc 0) 0), (8, B false), (9, I 0), (11, I k)]) (fun _ => [.flat true (encF f)]) (fun k => k ≤ l.length ∧ inR t.length l = inR t.length (l.drop k)) (fun k => l.length - k) 0 ⟨Nat.zero_le _, rfl⟩ ?_ ?_
  · conv => whnf
    refine Retell.turn ⟨[0], 1, [], []⟩ (TurnOk.mk' _ _ [] [] (OutOk.lift _) rfl (by decide) zb trivial trivial rfl) zv zm
  · rintro k ⟨hk, hin⟩
    conv => whnf
    refine VIte.dec (fun h3 => ?_) (fun h3 => ?_)
    · have hx : l[k]? = some l[k] := List.getElem?_eq_getElem (by omega)
      generalize l[k] = x at hx
      rw [inR_drop hx] at hin
      conv => whnf
      repeat' (first | ((first | refine zs1 ?_ | refine zs2 ?_ | refine zs3 ?_ | refine zs4 ?_ | refine zs5 ?_ | refine zs6 [] ?_); conv => whnf) | ((first | apply zi1 | apply zi2 | apply zi3 | apply zi4 | apply zi5) <;> intro _ <;> conv => whnf) | (refine VAny.ix encI_len k rfl rfl hx ?_; conv => whnf) | (refine VCall.intro (vc_beside _ _ _ _) ?_; conv => whnf))
      · rw [decide_eq_false (by omega), Bool.false_and] at hin
        rw [hin]
        exact VOut.same rfl
      · rw [decide_eq_true (by omega), Bool.true_and] at hin
        refine LEnd.intro (k + 1) ⟨by omega, hin⟩ (by omega) ?_
        conv => whnf
        refine Retell.turn ⟨[0], 1, [], []⟩ (TurnOk.mk' _ _ [] [] (OutOk.lift _) rfl (by decide) zb trivial trivial rfl) zv zm
    · have hR : inR t.length l = true := by rw [hin, List.drop_of_length_le (by omega)]; rfl
      rw [hR, Bool.true_and]
      have hRR := shB_eq o hR
      obtain ⟨R, hR0⟩ : ∃ R, R = shB f t p l := ⟨_, rfl⟩
      rw [← hR0] at hRR ⊢
      conv => whnf
      rcases Nat.eq_zero_or_pos l.length with hz | hz
      · rw [decide_eq_false (by omega), Bool.false_and] at hRR
        rw [hRR]
        repeat' (first | ((first | refine zs1 ?_ | refine zs2 ?_ | refine zs3 ?_ | refine zs4 ?_ | refine zs5 ?_ | refine zs6 [] ?_); conv => whnf) | ((first | apply zi1 | apply zi2 | apply zi3 | apply zi4 | apply zi5) <;> intro _ <;> conv => whnf))
        · exact VOut.same rfl
        all_goals omega
      · have ha : l[0]? = some l[0] := List.getElem?_eq_getElem (by omega)
        have hb : l[l.length - 1]? = some l[l.length - 1] := List.getElem?_eq_getElem (by omega)
        have ra := inR_get hR ha
        have rb := inR_get hR hb
        have e1 : l.getD 0 0 = l[0] := by simp [ha]
        have e2 : l.getD (l.length - 1) 0 = l[l.length - 1] := by simp [hb]
        rw [e1, e2] at hRR
        generalize l[0] = a at ha ra hRR
        generalize l[l.length - 1] = z at hb rb hRR
        have hy : t[p]? = some t[p] := List.getElem?_eq_getElem (by omega)
        have hw : t[a.toNat]? = some t[a.toNat] := List.getElem?_eq_getElem (by omega)
        have b3 := o.yr hy
        have b4 := o.yr hw
        rw [tAt_eq hy, tAt_eq hw] at hRR
        generalize t[p] = y at hy b3 hRR
        generalize t[a.toNat] = w at hw b4 hRR
        repeat' (first | ((first | refine zs1 ?_ | refine zs2 ?_ | refine zs3 ?_ | refine zs4 ?_ | refine zs5 ?_ | refine zs6 [] ?_); conv => whnf) | ((first | apply zi1 | apply zi2 | apply zi3 | apply zi4 | apply zi5) <;> intro _ <;> conv => whnf) | (refine VAny.ix encI_len (l.length - 1) (by omega) rfl hb ?_; conv => whnf) | (refine VAny.ix encI_len 0 (by omega) rfl ha ?_; conv => whnf) | (refine VAny.ix encI_len p (by omega) rfl hy ?_; conv => whnf) | (refine VAny.ix encI_len a.toNat (by omega) rfl hw ?_; conv => whnf))
        all_goals (try omega)
        all_goals (try (rw [decide_eq_false (by omega), Bool.false_and] at hRR; rw [hRR]; exact VOut.same rfl))
        rw [decide_eq_true (by omega), Bool.true_and] at hRR
        refine VCode.lp (fun k : Nat => [(1, ints t), (2, I p), (3, ints l), (4, .ptr (.loc 0) 0), (8, B false), (9, I 0), (12, I k)]) (fun _ => [.flat true (encF f)]) (fun k => k ≤ l.length ∧ eachS (rs f t l p) 0 l = eachS (rs f t l p) k (l.drop k)) (fun k => l.length - k) 0 ⟨Nat.zero_le _, rfl⟩ ?_ ?_
        · conv => whnf
          refine Retell.turn ⟨[0], 1, [], []⟩ (TurnOk.mk' _ _ [] [] (OutOk.lift _) rfl (by decide) zb trivial trivial rfl) zv zm
        · rintro k ⟨hk, he⟩
          conv => whnf
          refine VIte.dec (fun h3 => ?_) (fun h3 => ?_)
          · have hx : l[k]? = some l[k] := List.getElem?_eq_getElem (by omega)
            have hv : l[k - 1]? = some l[k - 1] := List.getElem?_eq_getElem (by omega)
            have rx := inR_get hR hx
            have rv := inR_get hR hv
            have e3 : l.getD (k - 1) 0 = l[k - 1] := by simp [hv]
            rw [eachS_drop hx] at he
            have hrs : rs f t l p k l[k] = true ↔ (l[k] ≤ p ∧ fst f t l[k].toNat = fst f t p ∧ (k = 0 ∨ (l[k - 1] < l[k] ∧ tAt t l[k].toNat - tAt t l[k - 1].toNat ≤ f.G))) := by rw [rs, e3, decide_eq_true_eq]
            generalize l[k] = x at hx rx he hrs
            generalize l[k - 1] = v at hv rv hrs
            obtain ⟨x, rfl⟩ : ∃ m : Nat, x = m := ⟨x.toNat, by omega⟩
            obtain ⟨v, rfl⟩ : ∃ m : Nat, v = m := ⟨v.toNat, by omega⟩
            have hxy : t[x]? = some t[x] := List.getElem?_eq_getElem (by omega)
            have hvy : t[v]? = some t[v] := List.getElem?_eq_getElem (by omega)
            have b5 := o.yr hxy
            have b6 := o.yr hvy
            rw [Int.toNat_natCast, Int.toNat_natCast, tAt_eq hxy, tAt_eq hvy] at hrs
            generalize t[x] = xy at hxy b5 hrs
            generalize t[v] = vy at hvy b6 hrs
            conv => whnf
            repeat' (first | ((first | refine zs1 ?_ | refine zs2 ?_ | refine zs3 ?_ | refine zs4 ?_ | refine zs5 ?_ | refine zs6 [(13, 14)] ?_); conv => whnf) | ((first | apply zi1 | apply zi2 | apply zi3 | apply zi4 | apply zi5) <;> intro _ <;> conv => whnf) | (refine VAny.ix encI_len k (by omega) rfl hx ?_; conv => whnf) | (refine VAny.ix encI_len (k - 1) (by omega) rfl hv ?_; conv => whnf) | (refine VAny.ix encI_len x (by omega) rfl hxy ?_; conv => whnf) | (refine VAny.ix encI_len v (by omega) rfl hvy ?_; conv => whnf) | (refine VCall.intro (vc_first f t x _ o.toOkt (by omega)) ?_; conv => whnf) | (refine VCall.intro (vc_first f t p _ o.toOkt (by omega)) ?_; conv => whnf))
            all_goals first
              | (rw [Bool.eq_false_iff.2 (fun hq => absurd (hrs.1 hq) (by omega)), Bool.false_and] at he; rw [hRR, he]; exact VOut.same rfl)
              | (rw [hrs.2 (by omega), Bool.true_and] at he; refine LEnd.intro (k + 1) ⟨by omega, he⟩ (by omega) ?_; conv => whnf
                 refine Retell.turn ⟨[0], 1, [], []⟩ (TurnOk.mk' _ _ [] [] (OutOk.lift _) rfl (by decide) zb trivial trivial rfl) zv zm)
          · rw [List.drop_of_length_le (by omega)] at he
            rw [hRR, he]
            conv => whnf
            repeat (first | ((first | refine zs1 ?_ | refine zs2 ?_ | refine zs3 ?_ | refine zs4 ?_ | refine zs5 ?_ | refine zs6 [] ?_); conv => whnf))
            exact VOut.same rfl
end Go.Proofs.Ytolnajnlcdacmaa

open Go.Vm
namespace Go.Proofs.Ytolnajnlcdacmaa
set_option maxRecDepth 20000
set_option maxHeartbeats 1000000

def innS (f : Fil) (t : List Int) (i : Nat) (l : List Int) : Nat → Nat → Int → Int
  | 0, _, v => v
  | k + 1, j, v => innS f t i l k (j + 1) (if tAt t i - tAt t j ≤ f.G ∧ l.getD j 0 + 1 < v then l.getD j 0 + 1 else v)
def mn1 (f : Fil) (t : List Int) (p lo i : Nat) (l : List Int) : Int := innS f t i l (i - lo) lo (if f.Y ≤ tAt t p - tAt t i then 1 else 100)
def mnS (f : Fil) (t : List Int) (p lo : Nat) : Nat → Nat → List Int → List Int
  | 0, _, l => l
  | k + 1, i, l => mnS f t p lo k (i + 1) (l.set i (mn1 f t p lo i l))
def many (f : Fil) (t : List Int) (p : Nat) : Int := (mnS f t p (fst f t p) (p + 1 - fst f t p) (fst f t p) (List.replicate t.length 0)).getD p 0
def small (l : List Int) : Prop := ∀ x ∈ l, 0 ≤ x ∧ x ≤ 100
theorem small_set {l : List Int} {i : Nat} {v : Int} (h : small l) (hv : 0 ≤ v ∧ v ≤ 100) : small (l.set i v) := by
  intro x hx
  rcases List.mem_or_eq_of_mem_set hx with h1 | h1
  · exact h x h1
  · subst h1; exact hv
theorem vc_Many_no (f : Fil) (t : List Int) (p : Int) (h : Hp) (hn : f.ps.length ≤ 4000000) (hl : t.length ≤ 4000000) (h0 : showE f t p ≠ 0) : VC Try.prog 45 [vF f, ints t, I p] h (.tuple [I 0, I (showE f t p)]) h := by
  refine VC.body Try.func45 rfl Try.ntmps45 Try.call45 (h.grows_refl) rfl ?_; conv => whnf
  repeat' (first | ((first | refine zs1 ?_ | refine zs2 ?_ | refine zs3 ?_ | refine zs4 ?_ | refine zs5 ?_ | refine zs6 [] ?_); conv => whnf) | ((first | apply zi1 | apply zi2 | apply zi3 | apply zi4 | apply zi5) <;> intro _ <;> conv => whnf) | (refine VCall.intro (vc_Shown f t p _ hn hl) ?_; conv => whnf))
  · exact VOut.same rfl
  all_goals (rename_i h1; exact absurd (by simpa using h1) h0)
theorem vc_Many_ok (f : Fil) (t : List Int) (p : Nat) (h : Hp) (hl : t.length ≤ 4000000) (h0 : showE f t p = 0) (o : Shw f t p) : VC Try.prog 45 [vF f, ints t, I p] h (.tuple [I (many f t p), I 0]) h := by
  have hlen := o.len
  have hn' := o.n
  have hlt := o.lt
  have hY := o.y
  have hfl := fst_le f t p
  have hS : ∀ h, VC Try.prog 77 [vF f, ints t, I p] h (I 0) h := fun h => h0 ▸ vc_Shown f t p h (by omega) hl
  unfold many
  obtain ⟨F, hF⟩ : ∃ F, F = mnS f t p (fst f t p) (p + 1 - fst f t p) (fst f t p) (List.replicate t.length 0) := ⟨_, rfl⟩
  rw [← hF]
  refine VC.body Try.func45 rfl Try.ntmps45 Try.call45 (h.grows_refl) rfl ?_; conv => whnf
  repeat' (first | ((first | refine zs1 ?_ | refine zs2 ?_ | refine zs3 ?_ | refine zs4 ?_ | refine zs5 ?_ | refine zs6 [] ?_); conv => whnf) | ((first | apply zi1 | apply zi2 | apply zi3 | apply zi4 | apply zi5) <;> intro _ <;> conv => whnf) | (refine VCall.intro (hS _) ?_; conv => whnf) | (refine VCall.intro (vc_first f t p _ o.toOkt (by omega)) ?_; conv => whnf))
  obtain ⟨lo, hlo⟩ : ∃ lo, lo = fst f t p := ⟨_, rfl⟩
  rw [← hlo] at hfl hF ⊢
  refine VMem.make (n := t.length) (0 : Int) encI_len rfl rfl rfl rfl rfl rfl (by omega) ?_
  conv => whnf
  repeat (first | ((first | refine zs1 ?_ | refine zs2 ?_ | refine zs3 ?_ | refine zs4 ?_ | refine zs5 ?_ | refine zs6 [] ?_); conv => whnf))
  refine VCode.lp (fun x : Nat × List Int => [(1, ints t), (2, I p), (3, .ptr (.loc 0) 0), (9, I lo), (10, .gl (.loc 1) 1 t.length), (11, I x.1)])
    (fun x => [.flat true (encF f), .flat true (x.2.flatMap encI)]) (fun x => lo ≤ x.1 ∧ x.1 ≤ p + 1 ∧ x.2.length = t.length ∧ small x.2 ∧ F = mnS f t p lo (p + 1 - x.1) x.1 x.2) (fun x => p + 1 - x.1) (lo, List.replicate t.length 0)
    ⟨Nat.le_refl _, by simp only; omega, by simp, by intro x hx; have := List.eq_of_mem_replicate hx; omega, hF⟩ ?_ ?_
  · conv => whnf
    refine Retell.turn ⟨[0,1], 2, [], []⟩ (TurnOk.mk' _ _ [] [] (OutOk.lift _) rfl (by decide) zb trivial trivial rfl) zv zm
  · rintro ⟨i, l⟩ ⟨h1, h2, h3, h4, h5⟩
    simp only at h1 h2 h3 h4 h5
    conv => whnf
    refine VIte.dec (fun h6 => ?_) (fun h6 => ?_)
    · have hy : t[p]? = some t[p] := List.getElem?_eq_getElem (by omega)
      have hw : t[i]? = some t[i] := List.getElem?_eq_getElem (by omega)
      have b3 := o.yr hy
      have b4 := o.yr hw
      have e1 := tAt_eq hy
      have e2 := tAt_eq hw
      obtain ⟨M, hM⟩ : ∃ M, M = mn1 f t p lo i l := ⟨_, rfl⟩
      have h5b : F = mnS f t p lo (p + 1 - (i + 1)) (i + 1) (l.set i M) := by
        obtain ⟨k, hk⟩ : ∃ k, p + 1 - i = k + 1 := ⟨p - i, by omega⟩
        rw [hk, mnS] at h5
        rw [hM, show p + 1 - (i + 1) = k by omega]
        exact h5
      generalize t[p] = y at hy b3 e1
      generalize t[i] = w at hw b4 e2
      have hli : l[i]? = some l[i] := List.getElem?_eq_getElem (by omega)
      have hM2 : M = innS f t i l (i - lo) lo (if f.Y ≤ tAt t p - tAt t i then 1 else 100) := hM
      conv => whnf
      repeat (first | ((first | refine zs1 ?_ | refine zs2 ?_ | refine zs3 ?_ | refine zs4 ?_ | refine zs5 ?_ | refine zs6 [] ?_); conv => whnf))
      refine VMem.setRec encI_len i 0 100 rfl rfl rfl hli (by decide) rfl (by simp only [Nat.zero_add, Nat.mul_one]; omega) ?_
      conv => whnf
      have hli2 : (l.set i 100)[i]? = some 100 := by rw [List.getElem?_set]; simp; omega
      repeat' (first | ((first | refine zs1 ?_ | refine zs2 ?_ | refine zs3 ?_ | refine zs4 ?_ | refine zs5 ?_ | refine zs6 [] ?_); conv => whnf) | ((first | apply zi1 | apply zi2 | apply zi3 | apply zi4 | apply zi5) <;> intro _ <;> conv => whnf) | (refine VAny.ix encI_len p (by omega) rfl hy ?_; conv => whnf) | (refine VAny.ix encI_len i (by omega) rfl hw ?_; conv => whnf))
      · refine VMem.setRec encI_len i 0 1 rfl rfl rfl hli2 (by decide) rfl (by simp only [Nat.zero_add, Nat.mul_one]; omega) ?_
        rw [List.set_set]
        rw [if_pos (by omega)] at hM2
        --
        conv => whnf
        repeat (first | ((first | refine zs1 ?_ | refine zs2 ?_ | refine zs3 ?_ | refine zs4 ?_ | refine zs5 ?_ | refine zs6 [] ?_); conv => whnf))
        refine VCode.lp (fun x : Nat × Int => [(1, ints t), (2, I p), (3, .ptr (.loc 0) 0), (9, I lo), (10, .gl (.loc 1) 1 t.length), (11, I i), (12, I x.1)])
          (fun x => [.flat true (encF f), .flat true ((l.set i x.2).flatMap encI)]) (fun x => lo ≤ x.1 ∧ x.1 ≤ i ∧ (0 ≤ x.2 ∧ x.2 ≤ 100) ∧ M = innS f t i l (i - x.1) x.1 x.2) (fun x => i - x.1) (lo, 1)
          ⟨Nat.le_refl _, h1, by simp only; omega, hM2⟩ ?_ ?_
        · conv => whnf
          refine Retell.turn ⟨[0,1], 2, [], []⟩ (TurnOk.mk' _ _ [] [] (OutOk.lift _) rfl (by decide) zb trivial trivial rfl) zv zm
        · rintro ⟨j, v⟩ ⟨g1, g2, g3, g4⟩
          simp only at g1 g2 g3 g4
          conv => whnf
          refine VIte.dec (fun g5 => ?_) (fun g5 => ?_)
          · have hx : t[j]? = some t[j] := List.getElem?_eq_getElem (by omega)
            have b5 := o.yr hx
            have e5 := tAt_eq hx
            have hlj : l[j]? = some l[j] := List.getElem?_eq_getElem (by omega)
            have e6 : l.getD j 0 = l[j] := by simp [hlj]
            have b6 := h4 l[j] (List.getElem_mem (by omega))
            have g4b : (tAt t i - tAt t j ≤ f.G ∧ l.getD j 0 + 1 < v → M = innS f t i l (i - (j + 1)) (j + 1) (l.getD j 0 + 1)) ∧ (¬ (tAt t i - tAt t j ≤ f.G ∧ l.getD j 0 + 1 < v) → M = innS f t i l (i - (j + 1)) (j + 1) v) := by
              obtain ⟨k, hk⟩ : ∃ k, i - j = k + 1 := ⟨i - j - 1, by omega⟩
              rw [hk, innS] at g4
              rw [show i - (j + 1) = k by omega]
              exact ⟨fun hc => by rw [if_pos hc] at g4; exact g4, fun hc => by rw [if_neg hc] at g4; exact g4⟩
            rw [e2, e5, e6] at g4b
            have hsj : ∀ v : Int, (l.set i v)[j]? = some l[j] := fun v => by rw [List.getElem?_set, if_neg (by omega)]; exact hlj
            have hsi : ∀ v : Int, (l.set i v)[i]? = some v := fun v => by rw [List.getElem?_set]; simp; omega
            generalize t[j] = x at hx b5 e5 g4b
            generalize l[j] = q at hlj e6 b6 g4b hsj
            conv => whnf
            repeat' (first | ((first | refine zs1 ?_ | refine zs2 ?_ | refine zs3 ?_ | refine zs4 ?_ | refine zs5 ?_ | refine zs6 [] ?_); conv => whnf) | ((first | apply zi1 | apply zi2 | apply zi3 | apply zi4 | apply zi5) <;> intro _ <;> conv => whnf) | (refine VAny.ix encI_len j (by omega) rfl hx ?_; conv => whnf) | (refine VAny.ix encI_len i (by omega) rfl hw ?_; conv => whnf) | (refine VLd.recc encI_len j 0 rfl rfl rfl (hsj v) (by decide) rfl (by simp only [Nat.zero_add, Nat.mul_one]; omega) ?_; conv => whnf) | (refine VLd.recc encI_len i 0 rfl rfl rfl (hsi v) (by decide) rfl (by simp only [Nat.zero_add, Nat.mul_one]; omega) ?_; conv => whnf))
            · refine VMem.setRec encI_len i 0 (q + 1) rfl rfl rfl (hsi v) (by decide) rfl (by simp only [Nat.zero_add, Nat.mul_one]; omega) ?_
              rw [List.set_set]
              conv => whnf
              repeat (first | ((first | refine zs1 ?_ | refine zs2 ?_ | refine zs3 ?_ | refine zs4 ?_ | refine zs5 ?_ | refine zs6 [] ?_); conv => whnf))
              refine LEnd.intro (j + 1, q + 1) ⟨by simp only; omega, by simp only; omega, by simp only; omega, g4b.1 (by omega)⟩ (by simp only; omega) ?_
              conv => whnf
              refine Retell.turn ⟨[0,1], 2, [], []⟩ (TurnOk.mk' _ _ [] [] (OutOk.lift _) rfl (by decide) zb trivial trivial rfl) zv zm
            all_goals (
              refine LEnd.intro (j + 1, v) ⟨by simp only; omega, by simp only; omega, g3, g4b.2 (by omega)⟩ (by simp only; omega) ?_
              conv => whnf
              refine Retell.turn ⟨[0,1], 2, [], []⟩ (TurnOk.mk' _ _ [] [] (OutOk.lift _) rfl (by decide) zb trivial trivial rfl) zv zm)
          · conv => whnf
            have hji : j = i := by omega
            subst hji
            rw [Nat.sub_self, innS] at g4
            subst g4
            repeat (first | ((first | refine zs1 ?_ | refine zs2 ?_ | refine zs3 ?_ | refine zs4 ?_ | refine zs5 ?_ | refine zs6 [] ?_); conv => whnf))
            refine LEnd.intro (j + 1, l.set j M) ⟨by simp only; omega, by simp only; omega, by simp [h3], small_set h4 g3, h5b⟩ (by simp only; omega) ?_
            conv => whnf
            refine Retell.turn ⟨[0,1], 2, [], []⟩ (TurnOk.mk' _ _ [] [] (OutOk.lift _) rfl (by decide) zb trivial trivial rfl) zv zm
      · rw [if_neg (by omega)] at hM2
        --
        refine VCode.lp (fun x : Nat × Int => [(1, ints t), (2, I p), (3, .ptr (.loc 0) 0), (9, I lo), (10, .gl (.loc 1) 1 t.length), (11, I i), (12, I x.1)])
          (fun x => [.flat true (encF f), .flat true ((l.set i x.2).flatMap encI)]) (fun x => lo ≤ x.1 ∧ x.1 ≤ i ∧ (0 ≤ x.2 ∧ x.2 ≤ 100) ∧ M = innS f t i l (i - x.1) x.1 x.2) (fun x => i - x.1) (lo, 100)
          ⟨Nat.le_refl _, h1, by simp only; omega, hM2⟩ ?_ ?_
        · conv => whnf
          refine Retell.turn ⟨[0,1], 2, [], []⟩ (TurnOk.mk' _ _ [] [] (OutOk.lift _) rfl (by decide) zb trivial trivial rfl) zv zm
        · rintro ⟨j, v⟩ ⟨g1, g2, g3, g4⟩
          simp only at g1 g2 g3 g4
          conv => whnf
          refine VIte.dec (fun g5 => ?_) (fun g5 => ?_)
          · have hx : t[j]? = some t[j] := List.getElem?_eq_getElem (by omega)
            have b5 := o.yr hx
            have e5 := tAt_eq hx
            have hlj : l[j]? = some l[j] := List.getElem?_eq_getElem (by omega)
            have e6 : l.getD j 0 = l[j] := by simp [hlj]
            have b6 := h4 l[j] (List.getElem_mem (by omega))
            have g4b : (tAt t i - tAt t j ≤ f.G ∧ l.getD j 0 + 1 < v → M = innS f t i l (i - (j + 1)) (j + 1) (l.getD j 0 + 1)) ∧ (¬ (tAt t i - tAt t j ≤ f.G ∧ l.getD j 0 + 1 < v) → M = innS f t i l (i - (j + 1)) (j + 1) v) := by
              obtain ⟨k, hk⟩ : ∃ k, i - j = k + 1 := ⟨i - j - 1, by omega⟩
              rw [hk, innS] at g4
              rw [show i - (j + 1) = k by omega]
              exact ⟨fun hc => by rw [if_pos hc] at g4; exact g4, fun hc => by rw [if_neg hc] at g4; exact g4⟩
            rw [e2, e5, e6] at g4b
            have hsj : ∀ v : Int, (l.set i v)[j]? = some l[j] := fun v => by rw [List.getElem?_set, if_neg (by omega)]; exact hlj
            have hsi : ∀ v : Int, (l.set i v)[i]? = some v := fun v => by rw [List.getElem?_set]; simp; omega
            generalize t[j] = x at hx b5 e5 g4b
            generalize l[j] = q at hlj e6 b6 g4b hsj
            conv => whnf
            repeat' (first | ((first | refine zs1 ?_ | refine zs2 ?_ | refine zs3 ?_ | refine zs4 ?_ | refine zs5 ?_ | refine zs6 [] ?_); conv => whnf) | ((first | apply zi1 | apply zi2 | apply zi3 | apply zi4 | apply zi5) <;> intro _ <;> conv => whnf) | (refine VAny.ix encI_len j (by omega) rfl hx ?_; conv => whnf) | (refine VAny.ix encI_len i (by omega) rfl hw ?_; conv => whnf) | (refine VLd.recc encI_len j 0 rfl rfl rfl (hsj v) (by decide) rfl (by simp only [Nat.zero_add, Nat.mul_one]; omega) ?_; conv => whnf) | (refine VLd.recc encI_len i 0 rfl rfl rfl (hsi v) (by decide) rfl (by simp only [Nat.zero_add, Nat.mul_one]; omega) ?_; conv => whnf))
            · refine VMem.setRec encI_len i 0 (q + 1) rfl rfl rfl (hsi v) (by decide) rfl (by simp only [Nat.zero_add, Nat.mul_one]; omega) ?_
              rw [List.set_set]
              conv => whnf
              repeat (first | ((first | refine zs1 ?_ | refine zs2 ?_ | refine zs3 ?_ | refine zs4 ?_ | refine zs5 ?_ | refine zs6 [] ?_); conv => whnf))
              refine LEnd.intro (j + 1, q + 1) ⟨by simp only; omega, by simp only; omega, by simp only; omega, g4b.1 (by omega)⟩ (by simp only; omega) ?_
              conv => whnf
              refine Retell.turn ⟨[0,1], 2, [], []⟩ (TurnOk.mk' _ _ [] [] (OutOk.lift _) rfl (by decide) zb trivial trivial rfl) zv zm
            all_goals (
              refine LEnd.intro (j + 1, v) ⟨by simp only; omega, by simp only; omega, g3, g4b.2 (by omega)⟩ (by simp only; omega) ?_
              conv => whnf
              refine Retell.turn ⟨[0,1], 2, [], []⟩ (TurnOk.mk' _ _ [] [] (OutOk.lift _) rfl (by decide) zb trivial trivial rfl) zv zm)
          · conv => whnf
            have hji : j = i := by omega
            subst hji
            rw [Nat.sub_self, innS] at g4
            subst g4
            repeat (first | ((first | refine zs1 ?_ | refine zs2 ?_ | refine zs3 ?_ | refine zs4 ?_ | refine zs5 ?_ | refine zs6 [] ?_); conv => whnf))
            refine LEnd.intro (j + 1, l.set j M) ⟨by simp only; omega, by simp only; omega, by simp [h3], small_set h4 g3, h5b⟩ (by simp only; omega) ?_
            conv => whnf
            refine Retell.turn ⟨[0,1], 2, [], []⟩ (TurnOk.mk' _ _ [] [] (OutOk.lift _) rfl (by decide) zb trivial trivial rfl) zv zm
    · have hi : i = p + 1 := by omega
      subst hi
      rw [Nat.sub_self, mnS] at h5
      have hlp : l[p]? = some l[p] := List.getElem?_eq_getElem (by omega)
      have e9 : F.getD p 0 = l[p] := by rw [h5]; simp [hlp]
      rw [e9]
      generalize l[p] = q at hlp
      conv => whnf
      repeat' (first | ((first | refine zs1 ?_ | refine zs2 ?_ | refine zs3 ?_ | refine zs4 ?_ | refine zs5 ?_ | refine zs6 [] ?_); conv => whnf) | ((first | apply zi1 | apply zi2 | apply zi3 | apply zi4 | apply zi5) <;> intro _ <;> conv => whnf) | (refine VLd.recc encI_len p 0 rfl rfl rfl hlp (by decide) rfl (by simp only [Nat.zero_add, Nat.mul_one]; omega) ?_; conv => whnf))
      exact VOut.same rfl
end Go.Proofs.Ytolnajnlcdacmaa

open Go.Vm
namespace Go.Proofs.Ytolnajnlcdacmaa
set_option maxRecDepth 20000
set_option maxHeartbeats 1000000

def farS (f : Fil) (t : List Int) (p : Nat) : Nat → Nat → Nat
  | 0, i => i
  | n + 1, i => if f.Y ≤ tAt t p - tAt t (i + 1) then farS f t p n (i + 1) else i
def far (f : Fil) (t : List Int) (p : Nat) : Nat := farS f t p p (fst f t p)
theorem farS_ok {f : Fil} {t : List Int} {p : Nat} (hY : 1 ≤ f.Y) : ∀ n i, p ≤ i + n → i < p → f.Y ≤ tAt t p - tAt t i → i ≤ farS f t p n i ∧ farS f t p n i < p ∧ f.Y ≤ tAt t p - tAt t (farS f t p n i) ∧ tAt t p - tAt t (farS f t p n i + 1) < f.Y
  | 0, i, h1, h2, _ => by omega
  | n + 1, i, h1, h2, h3 => by
    rw [farS]
    split
    · rename_i h4
      have h5 : i + 1 < p := by
        rcases Nat.eq_or_lt_of_le (Nat.succ_le_of_lt h2) with h6 | h6
        · have h6 : i + 1 = p := h6
          rw [h6] at h4; omega
        · exact h6
      have := farS_ok hY n (i + 1) (by omega) h5 h4
      omega
    · exact ⟨Nat.le_refl _, h2, h3, by omega⟩
theorem far_ok {f : Fil} {t : List Int} {p : Nat} (o : Shw f t p) : fst f t p ≤ far f t p ∧ far f t p < p ∧ f.Y ≤ tAt t p - tAt t (far f t p) ∧ tAt t p - tAt t (far f t p + 1) < f.Y := by
  have h1 := o.far
  have h2 := o.y.1
  have h3 := fst_le f t p
  have h4 : fst f t p < p := by
    rcases Nat.eq_or_lt_of_le h3 with h5 | h5
    · rw [h5] at h1; omega
    · exact h5
  exact farS_ok h2 p _ (by omega) h4 h1
def asc (l : List Int) (i : Nat) (x : Int) : Bool := decide (i = 0 ∨ l.getD (i - 1) 0 < x)
def cntS (f : Fil) (y : Int) (l : List Int) : Nat → Nat
  | 0 => 0
  | k + 1 => cntS f y l k + (if l.getD k 0 + 1 ≤ y ∧ y ≤ l.getD k 0 + f.G then 1 else 0)
theorem cntS_le (f : Fil) (y : Int) (l : List Int) (k : Nat) : ∀ j, cntS f y l k ≤ cntS f y l (k + j)
  | 0 => Nat.le_refl _
  | j + 1 => Nat.le_trans (cntS_le f y l k j) (by rw [← Nat.add_assoc, cntS]; omega)
theorem cntS_bd (f : Fil) (y : Int) (l : List Int) : ∀ k, cntS f y l k ≤ k
  | 0 => Nat.le_refl _
  | k + 1 => by have := cntS_bd f y l k; rw [cntS]; split <;> omega
def badW (f : Fil) (t l : List Int) (p i : Nat) : Bool := decide (1 < cntS f (tAt t i) l l.length ∨ (0 < cntS f (tAt t i) l l.length ∧ i = p))
def okW (f : Fil) (t l : List Int) (p : Nat) : Nat → Nat → Bool
  | 0, _ => true
  | k + 1, i => bif badW f t l p i then false else okW f t l p k (i + 1)
def hiOf (f : Fil) (t : List Int) (p : Nat) : Nat := match chn f t p with
  | some s => s.hi.toNat
  | none => 0
def pvE (f : Fil) (t : List Int) (p : Nat) (l : List Int) : Int :=
  bif eachS (asc l) 0 l then
    bif l.all (fun x => decide (tAt t (far f t p) ≤ x ∧ x ≤ tAt t p - 1)) then
      bif okW f t l p (hiOf f t p + 1 - fst f t p) (fst f t p) then 0 else 9
    else 4
  else 5
def pvR (l : List Int) (e : Int) : V := .tuple [I (if e = 0 then l.length + 2 else 0), I e]
theorem vc_pr1 (l : List Int) (i : Nat) (x : Int) (h : Hp) (hl : l.length ≤ 4000000) (hx : l[i]? = some x) : VC Try.prog 82 [I i, I x, .fp [dints l]] h (B (asc l i x)) h := by
  have hil : i < l.length := by obtain ⟨h1, _⟩ := List.getElem?_eq_some_iff.1 hx; exact h1
  have hz : l[i - 1]? = some l[i - 1] := List.getElem?_eq_getElem (by omega)
  have e2 : l.getD (i - 1) 0 = l[i - 1] := by simp [hz]
  unfold asc
  rw [e2]
  generalize l[i - 1] = z at hz
  refine VC.body Try.func82 rfl Try.ntmps82 Try.call82 (h.grows_refl) rfl ?_; conv => whnf
  repeat' (first | ((first | refine zs1 ?_ | refine zs2 ?_ | refine zs3 ?_ | refine zs4 ?_ | refine zs5 ?_ | refine zs6 [] ?_); conv => whnf) | ((first | apply zi1 | apply zi2 | apply zi3 | apply zi4 | apply zi5) <;> intro _ <;> conv => whnf) | (refine VAny.ix encI_len (i - 1) (by omega) rfl hz ?_; conv => whnf))
  all_goals (refine VOut.dec ?_; first | (simp only [decide_eq_true_eq]; omega) | (simp; omega) | (simp; done))
theorem vc_pr2 (f : Fil) (t : List Int) (a p i : Nat) (x : Int) (h : Hp) (o : Okt f t) (ha : a < t.length) (hp : p < t.length) : VC Try.prog 83 [I i, I x, .fp [dints t], .fp [DI a], .fp [DI p]] h (B (decide (tAt t a ≤ x ∧ x ≤ tAt t p - 1))) h := by
  have hy : t[a]? = some t[a] := List.getElem?_eq_getElem (by omega)
  have hw : t[p]? = some t[p] := List.getElem?_eq_getElem (by omega)
  have b3 := o.yr hy
  have b4 := o.yr hw
  rw [tAt_eq hy, tAt_eq hw]
  generalize t[a] = y at hy b3
  generalize t[p] = w at hw b4
  refine VC.body Try.func83 rfl Try.ntmps83 Try.call83 (h.grows_refl) rfl ?_; conv => whnf
  repeat' (first | ((first | refine zs1 ?_ | refine zs2 ?_ | refine zs3 ?_ | refine zs4 ?_ | refine zs5 ?_ | refine zs6 [] ?_); conv => whnf) | ((first | apply zi1 | apply zi2 | apply zi3 | apply zi4 | apply zi5) <;> intro _ <;> conv => whnf) | (refine VAny.ix encI_len a (by omega) rfl hy ?_; conv => whnf) | (refine VAny.ix encI_len p (by omega) rfl hw ?_; conv => whnf) | (refine VCall.intro (vc_from _ _ _ _) ?_; conv => whnf))
  all_goals (refine VOut.dec ?_; first | (simp only [decide_eq_true_eq]; omega) | (simp; omega) | (simp; done))
theorem vc_Proves_no (f : Fil) (t : List Int) (p : Int) (l : List Int) (h : Hp) (hn : f.ps.length ≤ 4000000) (hl : t.length ≤ 4000000) (h0 : showE f t p ≠ 0) : VC Try.prog 50 [vF f, ints t, I p, ints l] h (.tuple [I 0, I (showE f t p)]) h := by
  refine VC.body Try.func50 rfl Try.ntmps50 Try.call50 (h.grows_refl) rfl ?_; conv => whnf
  repeat' (first | ((first | refine zs1 ?_ | refine zs2 ?_ | refine zs3 ?_ | refine zs4 ?_ | refine zs5 ?_ | refine zs6 [] ?_); conv => whnf) | ((first | apply zi1 | apply zi2 | apply zi3 | apply zi4 | apply zi5) <;> intro _ <;> conv => whnf) | (refine VCall.intro (vc_shown_no f t p _ hn hl h0) ?_; conv => whnf))
  · exact VOut.same rfl
  all_goals (rename_i h1; exact absurd (by simpa using h1) h0)
theorem vc_Proves_ok (f : Fil) (t : List Int) (p : Nat) (l : List Int) (h : Hp) (hl : t.length ≤ 4000000) (hl2 : l.length ≤ 4000000) (h0 : toldE f t = 0) (o : Shw f t p) :
    VC Try.prog 50 [vF f, ints t, I p, ints l] h (pvR l (pvE f t p l)) h := by
  have hlen := o.len
  have hn' := o.n
  have hlt := o.lt
  obtain ⟨hi, c⟩ := InCh.of o
  have hfr := far_ok o
  refine VC.bodyC 1 Try.func50 rfl Try.ntmps50 Try.call50 (h.grows_refl) rfl ?_; conv => whnf
  refine VCut.into 4 ?_
  repeat' (first | ((first | refine zs1 ?_ | refine zs2 ?_ | refine zs3 ?_ | refine zs4 ?_ | refine zs5 ?_ | refine zs6 [] ?_); conv => whnf) | ((first | apply zi1 | apply zi2 | apply zi3 | apply zi4 | apply zi5) <;> intro _ <;> conv => whnf) | (refine VCall.intro (vc_shown_ok f t p hi _ hl o h0 c.hc) ?_; conv => whnf))
  obtain ⟨F, hF⟩ : ∃ F, F = far f t p := ⟨_, rfl⟩
  have hF2 : F = farS f t p p (fst f t p) := hF
  rw [← hF] at hfr
  obtain ⟨lo, hlo⟩ : ∃ lo, lo = fst f t p := ⟨_, rfl⟩
  rw [← hlo] at hfr hF2 ⊢
  have hhi : hiOf f t p = hi := by rw [hiOf, c.hc]; rfl
  obtain ⟨E, hE⟩ : ∃ E, E = pvE f t p l := ⟨_, rfl⟩
  have hE2 : E = bif eachS (asc l) 0 l then bif l.all (fun x => decide (tAt t F ≤ x ∧ x ≤ tAt t p - 1)) then bif okW f t l p (hi + 1 - lo) lo then 0 else 9 else 4 else 5 := by rw [hE, hF, hlo, ← hhi]; rfl
  rw [← hE]
  have hy : t[p]? = some t[p] := List.getElem?_eq_getElem (by omega)
  have b3 := o.yr hy
  have e3 := tAt_eq hy
  have hhp := c.ph
  have hhl := c.hl
  refine VCode.lp (fun k : Nat => [(1, ints t), (2, I p), (3, ints l), (4, .ptr (.loc 0) 0), (5, .ptr (.loc 1) 0), (6, .ptr (.loc 2) 0), (7, .ptr (.loc 3) 0), (8, I 0), (9, I 0), (10, .fp (encDk f t)), (11, .ptr (.loc 4) 0), (12, I 0), (13, .ptr (.loc 5) 0)])
    (fun k => [.flat true (encF f), .flat true [dints t], .flat true [DI p], .flat true [dints l], .flat true [DI lo, DI hi], .flat true [DI k]]) (fun k => lo ≤ k ∧ k ≤ F ∧ ∃ n, F = farS f t p n k ∧ p ≤ k + n) (fun k => p - k) lo ⟨Nat.le_refl _, hfr.1, p, hF2, by omega⟩ ?_ ?_
  · conv => whnf
    refine Retell.turn ⟨[0,1,2,3,4,5], 6, [], []⟩ (TurnOk.mk' _ _ [] [] (OutOk.lift _) rfl (by decide) zb trivial trivial rfl) zv zm
  · rintro k ⟨h1, h2, n, h3, h4⟩
    obtain ⟨n, rfl⟩ : ∃ m, n = m + 1 := ⟨n - 1, by omega⟩
    rw [farS] at h3
    have hw : t[k + 1]? = some t[k + 1] := List.getElem?_eq_getElem (by omega)
    have b4 := o.yr hw
    have e4 := tAt_eq hw
    generalize t[p] = y at hy b3 e3
    generalize t[k + 1] = w at hw b4 e4
    conv => whnf
    repeat' (first | ((first | refine zs1 ?_ | refine zs2 ?_ | refine zs3 ?_ | refine zs4 ?_ | refine zs5 ?_ | refine zs6 [] ?_); conv => whnf) | ((first | apply zi1 | apply zi2 | apply zi3 | apply zi4 | apply zi5) <;> intro _ <;> conv => whnf) | (refine VAny.ix encI_len p (by omega) rfl hy ?_; conv => whnf) | (refine VAny.ix encI_len (k + 1) (by omega) rfl hw ?_; conv => whnf))
    · rw [if_pos (by omega)] at h3
      have hk1 : k + 1 ≤ F := by
        rcases Nat.eq_or_lt_of_le h2 with h6 | h6
        · subst h6; omega
        · exact h6
      refine LEnd.intro (k + 1) ⟨by omega, hk1, n, h3, by omega⟩ (by omega) ?_
      conv => whnf
      refine Retell.turn ⟨[0,1,2,3,4,5], 6, [], []⟩ (TurnOk.mk' _ _ [] [] (OutOk.lift _) rfl (by decide) zb trivial trivial rfl) zv zm
    · rw [if_neg (by omega)] at h3
      subst h3
      refine VCut.at [(1, ints t), (2, I p), (3, ints l), (4, .fp (encF f)), (5, .fp [dints t]), (6, .fp [DI p]), (7, .fp [dints l]), (8, I 0), (9, I 0), (10, .fp (encDk f t)), (11, .fp [DI lo, DI hi]), (12, I 0), (13, .fp [DI F])] [] ?_ ?_
      · conv => whnf
        refine Retell.turn ⟨[], 6, [(0, encF f), (1, [dints t]), (2, [DI p]), (3, [dints l]), (4, [DI lo, DI hi]), (5, [DI F])], []⟩ (TurnOk.mk' _ _ [(0, encF f), (1, [dints t]), (2, [DI p]), (3, [dints l]), (4, [DI lo, DI hi]), (5, [DI F])] [] (OutOk.lift _) rfl (by decide) zb zf trivial rfl) zv zm
      have key1 : VC Try.prog 79 [ints l, .func (.func 82) [] (D.vs [.pt [dints l]])] ⟨h.lift, []⟩ (B (eachS (asc l) 0 l)) ⟨h.lift, []⟩ :=
        vc_each l (asc l) 82 [.pt [dints l]] hl2 (fun i x h hx => vc_pr1 l i x h hl2 hx) _
      have key2 : VC Try.prog 79 [ints l, .func (.func 83) [] (D.vs [.pt [dints t], .pt [DI F], .pt [DI p]])] ⟨h.lift, []⟩ (B (l.all fun x => decide (tAt t F ≤ x ∧ x ≤ tAt t p - 1))) ⟨h.lift, []⟩ := by
        rw [← eachS_all _ l 0]
        exact vc_each l (fun _ x => decide (tAt t F ≤ x ∧ x ≤ tAt t p - 1)) 83 [.pt [dints t], .pt [DI F], .pt [DI p]] hl2 (fun i x h hx => vc_pr2 f t F p i x h o.toOkt (by omega) (by omega)) _
      have hRR : ∀ e : Int, E = e → pvR l E = .tuple [I (if e = 0 then l.length + 2 else 0), I e] := fun e he => by rw [he]; rfl
      cases hA : eachS (asc l) 0 l
      · rw [hA] at hE2 key1
        rw [hRR 5 hE2]
        conv => whnf
        repeat' (first | ((first | refine zs1 ?_ | refine zs2 ?_ | refine zs3 ?_ | refine zs4 ?_ | refine zs5 ?_ | refine zs6 [] ?_); conv => whnf) | ((first | apply zi1 | apply zi2 | apply zi3 | apply zi4 | apply zi5) <;> intro _ <;> conv => whnf) | (refine VCall.intro key1 ?_; conv => whnf))
        exact VOut.same rfl
      · rw [hA] at hE2 key1
        simp only [cond_true] at hE2
        cases hB : l.all fun x => decide (tAt t F ≤ x ∧ x ≤ tAt t p - 1)
        · rw [hB] at hE2 key2
          rw [hRR 4 hE2]
          conv => whnf
          repeat' (first | ((first | refine zs1 ?_ | refine zs2 ?_ | refine zs3 ?_ | refine zs4 ?_ | refine zs5 ?_ | refine zs6 [] ?_); conv => whnf) | ((first | apply zi1 | apply zi2 | apply zi3 | apply zi4 | apply zi5) <;> intro _ <;> conv => whnf) | (refine VCall.intro key1 ?_; conv => whnf) | (refine VCall.intro key2 ?_; conv => whnf))
          exact VOut.same rfl
        · rw [hB] at hE2 key2
          simp only [cond_true] at hE2
          have hin : ∀ {i : Nat} {x : Int}, l[i]? = some x → 0 ≤ x ∧ x ≤ 3000 := fun {i x} hx => by
            have h9 := List.all_eq_true.1 hB x (List.mem_of_getElem? hx)
            rw [decide_eq_true_eq] at h9
            have hfy : t[F]? = some t[F] := List.getElem?_eq_getElem (by omega)
            have b9 := o.yr hfy
            rw [tAt_eq hfy] at h9
            omega
          have hG := o.g
          conv => whnf
          repeat' (first | ((first | refine zs1 ?_ | refine zs2 ?_ | refine zs3 ?_ | refine zs4 ?_ | refine zs5 ?_ | refine zs6 [] ?_); conv => whnf) | ((first | apply zi1 | apply zi2 | apply zi3 | apply zi4 | apply zi5) <;> intro _ <;> conv => whnf) | (refine VCall.intro key1 ?_; conv => whnf) | (refine VCall.intro key2 ?_; conv => whnf))
          refine VCode.lp (fun k : Nat => [(4, .fp (encF f)), (5, .fp [dints t]), (6, .fp [DI p]), (7, .fp [dints l]), (8, I 0), (9, I 0), (10, .fp (encDk f t)), (11, .fp [DI lo, DI hi]), (12, I 0), (13, .fp [DI F]), (14, B true), (15, I k)]) (fun _ => []) (fun k => lo ≤ k ∧ k ≤ hi + 1 ∧ okW f t l p (hi + 1 - lo) lo = okW f t l p (hi + 1 - k) k) (fun k => hi + 1 - k) lo ⟨Nat.le_refl _, by omega, rfl⟩ ?_ ?_
          · conv => whnf
            refine Retell.turn ⟨[], 0, [], []⟩ (TurnOk.mk' _ _ [] [] (OutOk.lift _) rfl (by decide) zb trivial trivial rfl) zv zm
          · rintro i ⟨g1, g2, g3⟩
            conv => whnf
            repeat (first | ((first | refine zs1 ?_ | refine zs2 ?_ | refine zs3 ?_ | refine zs4 ?_ | refine zs5 ?_ | refine zs6 [] ?_); conv => whnf))
            refine VIte.dec (fun g4 => ?_) (fun g4 => ?_)
            · have hx : t[i]? = some t[i] := List.getElem?_eq_getElem (by omega)
              have b5 := o.yr hx
              have e5 := tAt_eq hx
              have hbad : badW f t l p i = true ↔ (1 < cntS f t[i] l l.length ∨ (0 < cntS f t[i] l l.length ∧ i = p)) := by rw [badW, e5, decide_eq_true_eq]
              have g3b : (badW f t l p i = true → okW f t l p (hi + 1 - lo) lo = false) ∧ (badW f t l p i = false → okW f t l p (hi + 1 - lo) lo = okW f t l p (hi + 1 - (i + 1)) (i + 1)) := by
                obtain ⟨m, hm⟩ : ∃ m, hi + 1 - i = m + 1 := ⟨hi - i, by omega⟩
                rw [hm, okW] at g3
                rw [show hi + 1 - (i + 1) = m by omega, g3]
                exact ⟨fun hb => by rw [hb]; rfl, fun hb => by rw [hb]; rfl⟩
              generalize t[i] = x at hx b5 e5 hbad
              conv => whnf
              repeat (first | ((first | refine zs1 ?_ | refine zs2 ?_ | refine zs3 ?_ | refine zs4 ?_ | refine zs5 ?_ | refine zs6 [] ?_); conv => whnf))
              refine VCode.lp (fun k : Nat => [(4, .fp (encF f)), (5, .fp [dints t]), (6, .fp [DI p]), (7, .fp [dints l]), (8, I 0), (9, I 0), (10, .fp (encDk f t)), (11, .fp [DI lo, DI hi]), (12, I 0), (13, .fp [DI F]), (14, B true), (15, I i), (16, I (cntS f x l k)), (68, ints l), (69, I l.length), (70, I k)]) (fun _ => []) (fun k => k ≤ l.length ∧ ¬ (1 < cntS f x l k ∨ (0 < cntS f x l k ∧ i = p))) (fun k => l.length - k) 0 ⟨Nat.zero_le _, by simp [cntS]⟩ ?_ ?_
              · conv => whnf
                refine Retell.turn ⟨[], 0, [], []⟩ (TurnOk.mk' _ _ [] [] (OutOk.lift _) rfl (by decide) zb trivial trivial rfl) zv zm
              · rintro k ⟨k1, k2⟩
                have hcb := cntS_bd f x l k
                conv => whnf
                refine VIte.dec (fun k3 => ?_) (fun k3 => ?_)
                · have hv : l[k]? = some l[k] := List.getElem?_eq_getElem (by omega)
                  have bv := hin hv
                  have ev : l.getD k 0 = l[k] := by simp [hv]
                  have hc1 : (l[k] + 1 ≤ x ∧ x ≤ l[k] + f.G → cntS f x l (k + 1) = cntS f x l k + 1) ∧ (¬ (l[k] + 1 ≤ x ∧ x ≤ l[k] + f.G) → cntS f x l (k + 1) = cntS f x l k) := by
                    rw [cntS, ev]
                    exact ⟨fun hc => by rw [if_pos hc], fun hc => by rw [if_neg hc]; rfl⟩
                  have hmono := cntS_le f x l (k + 1) (l.length - (k + 1))
                  rw [show k + 1 + (l.length - (k + 1)) = l.length by omega] at hmono
                  generalize l[k] = v at hv bv ev hc1
                  obtain ⟨C, hC⟩ : ∃ C, C = cntS f x l k := ⟨_, rfl⟩
                  obtain ⟨C', hC'⟩ : ∃ C', C' = cntS f x l (k + 1) := ⟨_, rfl⟩
                  rw [← hC] at hc1 hcb k2 ⊢
                  rw [← hC'] at hc1 hmono
                  conv => whnf
                  repeat' (first | ((first | refine zs1 ?_ | refine zs2 ?_ | refine zs3 ?_ | refine zs4 ?_ | refine zs5 ?_ | refine zs6 [] ?_); conv => whnf) | ((first | apply zi1 | apply zi2 | apply zi3 | apply zi4 | apply zi5) <;> intro _ <;> conv => whnf) | (refine VAny.ix encI_len k (by omega) rfl hv ?_; conv => whnf) | (refine VAny.ix encI_len i (by omega) rfl hx ?_; conv => whnf) | (refine VCall.intro (vc_from _ _ _ _) ?_; conv => whnf))
                  all_goals first
                    | (have hb := hbad.2 (by omega)
                       rw [g3b.1 hb] at hE2
                       rw [hRR 9 hE2]
                       exact VOut.same rfl)
                    | (refine LEnd.intro (k + 1) ⟨by omega, by rw [← hC']; omega⟩ (by omega) ?_
                       conv => whnf
                       rw [← hC']
                       refine Retell.turn ⟨[], 0, [], []⟩ (TurnOk.mk' _ _ [] [] (OutOk.lift _) rfl (by decide) zb trivial trivial rfl) zv zm)
                · have hk : k = l.length := by omega
                  subst hk
                  have hb : badW f t l p i = false := Bool.eq_false_iff.2 fun hb => k2 (hbad.1 hb)
                  conv => whnf
                  repeat (first | ((first | refine zs1 ?_ | refine zs2 ?_ | refine zs3 ?_ | refine zs4 ?_ | refine zs5 ?_ | refine zs6 [] ?_); conv => whnf))
                  refine LEnd.intro (i + 1) ⟨by omega, by omega, g3b.2 hb⟩ (by omega) ?_
                  conv => whnf
                  refine Retell.turn ⟨[], 0, [], []⟩ (TurnOk.mk' _ _ [] [] (OutOk.lift _) rfl (by decide) zb trivial trivial rfl) zv zm
            · have hi2 : i = hi + 1 := by omega
              subst hi2
              rw [g3, Nat.sub_self, okW] at hE2
              rw [hRR 0 hE2]
              conv => whnf
              repeat (first | ((first | refine zs1 ?_ | refine zs2 ?_ | refine zs3 ?_ | refine zs4 ?_ | refine zs5 ?_ | refine zs6 [] ?_); conv => whnf))
              exact VOut.same rfl
end Go.Proofs.Ytolnajnlcdacmaa

open Go.Vm
namespace Go.Proofs.Ytolnajnlcdacmaa
set_option maxRecDepth 20000
set_option maxHeartbeats 1000000

theorem all_drop {q : Int → Bool} {l : List Int} {k : Nat} {x : Int} (hx : l[k]? = some x) : (l.drop k).all q = (q x && (l.drop (k + 1)).all q) := by
  obtain ⟨h1, rfl⟩ := List.getElem?_eq_some_iff.1 hx
  rw [List.drop_eq_getElem_cons h1, List.all_cons]
theorem far_mono {f : Fil} {t : List Int} {p i F : Nat} (o : Okt f t) (hp : p < t.length) (h1 : F < p) (h2 : f.Y ≤ tAt t p - tAt t F) (h3 : tAt t p - tAt t (F + 1) < f.Y) (hi : i ≤ p) : f.Y ≤ tAt t p - tAt t i ↔ i ≤ F := by
  constructor
  · intro h
    rcases Nat.lt_or_ge F i with h4 | h4
    · rcases Nat.eq_or_lt_of_le (Nat.succ_le_of_lt h4) with h5 | h5
      · rw [show i = F + 1 from h5.symm] at h; omega
      · have := o.mono (a := F + 1) (b := i) h5 (by omega); omega
    · exact h4
  · intro h
    rcases Nat.eq_or_lt_of_le h with h5 | h5
    · rw [h5]; exact h2
    · have := o.mono h5 (by omega); omega
theorem vc_rProves_no (f : Fil) (t : List Int) (p : Int) (l : List Int) (h : Hp) (hn : f.ps.length ≤ 4000000) (hl : t.length ≤ 4000000) (h0 : showE f t p ≠ 0) : VC Try.prog 48 [vF f, ints t, I p, ints l] h (.tuple [I 0, I (showE f t p)]) h := by
  refine VC.body Try.func48 rfl Try.ntmps48 Try.call48 (h.grows_refl) rfl ?_; conv => whnf
  repeat' (first | ((first | refine zs1 ?_ | refine zs2 ?_ | refine zs3 ?_ | refine zs4 ?_ | refine zs5 ?_ | refine zs6 [] ?_); conv => whnf) | ((first | apply zi1 | apply zi2 | apply zi3 | apply zi4 | apply zi5) <;> intro _ <;> conv => whnf) | (refine VCall.intro (vc_Shown f t p _ hn hl) ?_; conv => whnf))
  · exact VOut.same rfl
  all_goals (rename_i h1; exact absurd (by simpa using h1) h0)
theorem vc_rProves_ok (f : Fil) (t : List Int) (p : Nat) (l : List Int) (h : Hp) (hl : t.length ≤ 4000000) (hl2 : l.length ≤ 4000000) (h0 : showE f t p = 0) (o : Shw f t p) :
    VC Try.prog 48 [vF f, ints t, I p, ints l] h (pvR l (pvE f t p l)) h := by
  have hlen := o.len
  have hn' := o.n
  have hlt := o.lt
  have hG := o.g
  obtain ⟨hi, c⟩ := InCh.of o
  have hfr := far_ok o
  have hfm := fun i => far_mono (i := i) o.toOkt o.lt hfr.2.1 hfr.2.2.1 hfr.2.2.2
  have hS : ∀ h, VC Try.prog 77 [vF f, ints t, I p] h (I 0) h := fun h => h0 ▸ vc_Shown f t p h (by omega) hl
  have hfst : ∀ i, fst f t p ≤ i → i ≤ hi → fst f t i = fst f t p := fst_seg c.hb c.hn
  have hout : hi + 1 < t.length → fst f t (hi + 1) = hi + 1 := fun hh => by rw [fst, c.hx hh]; rfl
  have hhi : hiOf f t p = hi := by rw [hiOf, c.hc]; rfl
  have hfle := fst_le f t p
  have hhp := c.ph
  have hhl := c.hl
  obtain ⟨E, hE⟩ : ∃ E, E = pvE f t p l := ⟨_, rfl⟩
  have hE2 : E = bif eachS (asc l) 0 l then bif l.all (fun x => decide (tAt t (far f t p) ≤ x ∧ x ≤ tAt t p - 1)) then bif okW f t l p (hi + 1 - fst f t p) (fst f t p) then 0 else 9 else 4 else 5 := by rw [hE, ← hhi]; rfl
  rw [← hE]
  have hRR : ∀ e : Int, E = e → pvR l E = .tuple [I (if e = 0 then l.length + 2 else 0), I e] := fun e he => by rw [he]; rfl
  obtain ⟨F, hF⟩ : ∃ F, F = far f t p := ⟨_, rfl⟩
  rw [← hF] at hfr hE2 hfm
  have hy : t[p]? = some t[p] := List.getElem?_eq_getElem (by omega)
  have b3 := o.yr hy
  have e3 := tAt_eq hy
  have hFy : t[F]? = some t[F] := List.getElem?_eq_getElem (by omega)
  have b8 := o.yr hFy
  have e8 := tAt_eq hFy
  have hasc : eachS (asc l) 0 l = eachS (asc l) 1 (l.drop 1) := by
    cases l with
    | nil => rfl
    | cons a r => rw [eachS]; simp [asc]
  refine VC.body Try.func48 rfl Try.ntmps48 Try.call48 (h.grows_refl) rfl ?_; conv => whnf
  repeat' (first | ((first | refine zs1 ?_ | refine zs2 ?_ | refine zs3 ?_ | refine zs4 ?_ | refine zs5 ?_ | refine zs6 [] ?_); conv => whnf) | ((first | apply zi1 | apply zi2 | apply zi3 | apply zi4 | apply zi5) <;> intro _ <;> conv => whnf) | (refine VCall.intro (hS _) ?_; conv => whnf))
  refine VCode.lp (fun k : Nat => [(1, ints t), (2, I p), (3, ints l), (4, .ptr (.loc 0) 0), (8, I 0), (9, I 0), (11, I k)]) (fun _ => [.flat true (encF f)]) (fun k => 1 ≤ k ∧ eachS (asc l) 0 l = eachS (asc l) k (l.drop k)) (fun k => l.length - k) 1 ⟨Nat.le_refl _, hasc⟩ ?_ ?_
  · conv => whnf
    refine Retell.turn ⟨[0], 1, [], []⟩ (TurnOk.mk' _ _ [] [] (OutOk.lift _) rfl (by decide) zb trivial trivial rfl) zv zm
  · rintro k ⟨h1, h2⟩
    conv => whnf
    refine VIte.dec (fun h3 => ?_) (fun h3 => ?_)
    · have hx : l[k]? = some l[k] := List.getElem?_eq_getElem (by omega)
      have hv : l[k - 1]? = some l[k - 1] := List.getElem?_eq_getElem (by omega)
      have ev : l.getD (k - 1) 0 = l[k - 1] := by simp [hv]
      rw [eachS_drop hx] at h2
      have has : asc l k l[k] = true ↔ (k = 0 ∨ l[k - 1] < l[k]) := by rw [asc, ev, decide_eq_true_eq]
      generalize l[k] = x at hx h2 has
      generalize l[k - 1] = v at hv ev has
      conv => whnf
      repeat' (first | ((first | refine zs1 ?_ | refine zs2 ?_ | refine zs3 ?_ | refine zs4 ?_ | refine zs5 ?_ | refine zs6 [] ?_); conv => whnf) | ((first | apply zi1 | apply zi2 | apply zi3 | apply zi4 | apply zi5) <;> intro _ <;> conv => whnf) | (refine VAny.ix encI_len k (by omega) rfl hx ?_; conv => whnf) | (refine VAny.ix encI_len (k - 1) (by omega) rfl hv ?_; conv => whnf))
      · rw [Bool.eq_false_iff.2 (fun hq => absurd (has.1 hq) (by omega)), Bool.false_and] at h2
        rw [h2] at hE2
        rw [hRR 5 hE2]
        exact VOut.same rfl
      · rw [has.2 (by omega), Bool.true_and] at h2
        refine LEnd.intro (k + 1) ⟨by omega, h2⟩ (by omega) ?_
        conv => whnf
        refine Retell.turn ⟨[0], 1, [], []⟩ (TurnOk.mk' _ _ [] [] (OutOk.lift _) rfl (by decide) zb trivial trivial rfl) zv zm
    · rw [h2, List.drop_of_length_le (by omega), eachS, cond_true] at hE2
      conv => whnf
      repeat' (first | ((first | refine zs1 ?_ | refine zs2 ?_ | refine zs3 ?_ | refine zs4 ?_ | refine zs5 ?_ | refine zs6 [] ?_); conv => whnf) | ((first | apply zi1 | apply zi2 | apply zi3 | apply zi4 | apply zi5) <;> intro _ <;> conv => whnf) | (refine VCall.intro (vc_first f t p _ o.toOkt (by omega)) ?_; conv => whnf))
      obtain ⟨lo, hlo⟩ : ∃ lo, lo = fst f t p := ⟨_, rfl⟩
      rw [← hlo] at hfr hE2 hfst hfle ⊢
      refine VCode.lp (fun k : Nat => [(1, ints t), (2, I p), (3, ints l), (4, .ptr (.loc 0) 0), (8, I 0), (9, I 0), (12, I lo), (13, I (max lo (min F (k - 1)) : Nat)), (14, I k)]) (fun _ => [.flat true (encF f)]) (fun k => lo ≤ k ∧ k ≤ p + 1) (fun k => p + 1 - k) lo ⟨Nat.le_refl _, by omega⟩ ?_ ?_
      · conv => whnf
        rw [show max lo (min F (lo - 1)) = lo by omega]
        refine Retell.turn ⟨[0], 1, [], []⟩ (TurnOk.mk' _ _ [] [] (OutOk.lift _) rfl (by decide) zb trivial trivial rfl) zv zm
      · rintro i ⟨g1, g2⟩
        conv => whnf
        refine VIte.dec (fun g3 => ?_) (fun g3 => ?_)
        · have hx : t[i]? = some t[i] := List.getElem?_eq_getElem (by omega)
          have b5 := o.yr hx
          have e5 := tAt_eq hx
          have hfi := hfm i (by omega)
          rw [e3, e5] at hfi
          generalize t[p] = y at hy b3 e3 hfi
          generalize t[i] = x at hx b5 e5 hfi
          conv => whnf
          repeat' (first | ((first | refine zs1 ?_ | refine zs2 ?_ | refine zs3 ?_ | refine zs4 ?_ | refine zs5 ?_ | refine zs6 [] ?_); conv => whnf) | ((first | apply zi1 | apply zi2 | apply zi3 | apply zi4 | apply zi5) <;> intro _ <;> conv => whnf) | (refine VAny.ix encI_len p (by omega) rfl hy ?_; conv => whnf) | (refine VAny.ix encI_len i (by omega) rfl hx ?_; conv => whnf))
          · refine LEnd.intro (i + 1) ⟨by omega, by omega⟩ (by omega) ?_
            conv => whnf
            rw [show max lo (min F (i + 1 - 1)) = i by omega]
            refine Retell.turn ⟨[0], 1, [], []⟩ (TurnOk.mk' _ _ [] [] (OutOk.lift _) rfl (by decide) zb trivial trivial rfl) zv zm
          · refine LEnd.intro (i + 1) ⟨by omega, by omega⟩ (by omega) ?_
            conv => whnf
            rw [show max lo (min F (i + 1 - 1)) = max lo (min F (i - 1)) by omega]
            refine Retell.turn ⟨[0], 1, [], []⟩ (TurnOk.mk' _ _ [] [] (OutOk.lift _) rfl (by decide) zb trivial trivial rfl) zv zm
        · have hip : i = p + 1 := by omega
          subst hip
          rw [show max lo (min F (p + 1 - 1)) = F by omega]
          conv => whnf
          repeat (first | ((first | refine zs1 ?_ | refine zs2 ?_ | refine zs3 ?_ | refine zs4 ?_ | refine zs5 ?_ | refine zs6 [] ?_); conv => whnf))
          refine VCode.lp (fun k : Nat => [(1, ints t), (2, I p), (3, ints l), (4, .ptr (.loc 0) 0), (8, I 0), (9, I 0), (12, I lo), (13, I F), (15, I k)]) (fun _ => [.flat true (encF f)]) (fun k => (l.all fun x => decide (tAt t F ≤ x ∧ x ≤ tAt t p - 1)) = ((l.drop k).all fun x => decide (tAt t F ≤ x ∧ x ≤ tAt t p - 1))) (fun k => l.length - k) 0 rfl ?_ ?_
          · conv => whnf
            refine Retell.turn ⟨[0], 1, [], []⟩ (TurnOk.mk' _ _ [] [] (OutOk.lift _) rfl (by decide) zb trivial trivial rfl) zv zm
          · rintro k k1
            conv => whnf
            refine VIte.dec (fun k3 => ?_) (fun k3 => ?_)
            · have hv : l[k]? = some l[k] := List.getElem?_eq_getElem (by omega)
              generalize l[k] = v at hv
              rw [all_drop hv] at k1
              have hq : decide (tAt t F ≤ v ∧ v ≤ tAt t p - 1) = true ↔ (t[F] ≤ v ∧ v ≤ t[p] - 1) := by rw [e8, e3, decide_eq_true_eq]
              generalize t[p] = y at hy b3 e3 hq
              generalize t[F] = z at hFy b8 e8 hq
              conv => whnf
              repeat' (first | ((first | refine zs1 ?_ | refine zs2 ?_ | refine zs3 ?_ | refine zs4 ?_ | refine zs5 ?_ | refine zs6 [] ?_); conv => whnf) | ((first | apply zi1 | apply zi2 | apply zi3 | apply zi4 | apply zi5) <;> intro _ <;> conv => whnf) | (refine VAny.ix encI_len p (by omega) rfl hy ?_; conv => whnf) | (refine VAny.ix encI_len F (by omega) rfl hFy ?_; conv => whnf) | (refine VAny.ix encI_len k (by omega) rfl hv ?_; conv => whnf) | (refine VCall.intro (vc_beside _ _ _ _) ?_; conv => whnf))
              · rw [Bool.eq_false_iff.2 (fun hq2 => absurd (hq.1 hq2) (by omega)), Bool.false_and] at k1
                rw [k1] at hE2
                rw [hRR 4 hE2]
                exact VOut.same rfl
              · rw [hq.2 (by omega), Bool.true_and] at k1
                refine LEnd.intro (k + 1) k1 (by omega) ?_
                conv => whnf
                refine Retell.turn ⟨[0], 1, [], []⟩ (TurnOk.mk' _ _ [] [] (OutOk.lift _) rfl (by decide) zb trivial trivial rfl) zv zm
            · rw [k1, List.drop_of_length_le (by omega), List.all_nil, cond_true] at hE2
              have hB : l.all (fun x => decide (tAt t F ≤ x ∧ x ≤ tAt t p - 1)) = true := by rw [k1, List.drop_of_length_le (by omega), List.all_nil]
              have hin : ∀ {i : Nat} {x : Int}, l[i]? = some x → 0 ≤ x ∧ x ≤ 3000 := fun {i x} hx => by
                have h9 := List.all_eq_true.1 hB x (List.mem_of_getElem? hx)
                rw [decide_eq_true_eq] at h9
                omega
              conv => whnf
              repeat (first | ((first | refine zs1 ?_ | refine zs2 ?_ | refine zs3 ?_ | refine zs4 ?_ | refine zs5 ?_ | refine zs6 [] ?_); conv => whnf))
              refine VCode.lp (fun k : Nat => [(1, ints t), (2, I p), (3, ints l), (4, .ptr (.loc 0) 0), (8, I 0), (9, I 0), (12, I lo), (16, I k)]) (fun _ => [.flat true (encF f)]) (fun k => lo ≤ k ∧ k ≤ hi + 1 ∧ okW f t l p (hi + 1 - lo) lo = okW f t l p (hi + 1 - k) k) (fun k => hi + 1 - k) lo ⟨Nat.le_refl _, by omega, rfl⟩ ?_ ?_
              · conv => whnf
                refine Retell.turn ⟨[0], 1, [], []⟩ (TurnOk.mk' _ _ [] [] (OutOk.lift _) rfl (by decide) zb trivial trivial rfl) zv zm
              · rintro i ⟨g1, g2, g3⟩
                rcases Nat.eq_or_lt_of_le g2 with g5 | g5
                · subst g5
                  rw [g3, Nat.sub_self, okW, cond_true] at hE2
                  rw [hRR 0 hE2]
                  conv => whnf
                  rcases Nat.lt_or_ge (hi + 1) t.length with g6 | g6
                  · have := hout g6
                    repeat' (first | ((first | refine zs1 ?_ | refine zs2 ?_ | refine zs3 ?_ | refine zs4 ?_ | refine zs5 ?_ | refine zs6 [] ?_); conv => whnf) | ((first | apply zi1 | apply zi2 | apply zi3 | apply zi4 | apply zi5) <;> intro _ <;> conv => whnf) | (refine VCall.intro (vc_first f t (hi + 1) _ o.toOkt g6) ?_; conv => whnf))
                    · omega
                    · exact VOut.same rfl
                    · omega
                  · repeat' (first | ((first | refine zs1 ?_ | refine zs2 ?_ | refine zs3 ?_ | refine zs4 ?_ | refine zs5 ?_ | refine zs6 [] ?_); conv => whnf) | ((first | apply zi1 | apply zi2 | apply zi3 | apply zi4 | apply zi5) <;> intro _ <;> conv => whnf))
                    · omega
                    · exact VOut.same rfl
                · have hfi := hfst i g1 (by omega)
                  have hx : t[i]? = some t[i] := List.getElem?_eq_getElem (by omega)
                  have b5 := o.yr hx
                  have e5 := tAt_eq hx
                  have hbad : badW f t l p i = true ↔ (1 < cntS f t[i] l l.length ∨ (0 < cntS f t[i] l l.length ∧ i = p)) := by rw [badW, e5, decide_eq_true_eq]
                  have g3b : (badW f t l p i = true → okW f t l p (hi + 1 - lo) lo = false) ∧ (badW f t l p i = false → okW f t l p (hi + 1 - lo) lo = okW f t l p (hi + 1 - (i + 1)) (i + 1)) := by
                    obtain ⟨m, hm⟩ : ∃ m, hi + 1 - i = m + 1 := ⟨hi - i, by omega⟩
                    rw [hm, okW] at g3
                    rw [show hi + 1 - (i + 1) = m by omega, g3]
                    exact ⟨fun hb => by rw [hb]; rfl, fun hb => by rw [hb]; rfl⟩
                  generalize t[i] = x at hx b5 e5 hbad
                  conv => whnf
                  repeat' (first | ((first | refine zs1 ?_ | refine zs2 ?_ | refine zs3 ?_ | refine zs4 ?_ | refine zs5 ?_ | refine zs6 [] ?_); conv => whnf) | ((first | apply zi1 | apply zi2 | apply zi3 | apply zi4 | apply zi5) <;> intro _ <;> conv => whnf) | (refine VCall.intro (vc_first f t i _ o.toOkt (by omega)) ?_; conv => whnf))
                  · refine VCode.lp (fun k : Nat => [(1, ints t), (2, I p), (3, ints l), (4, .ptr (.loc 0) 0), (8, I 0), (9, I 0), (12, I lo), (16, I i), (17, I (cntS f x l k)), (18, I k)]) (fun _ => [.flat true (encF f)]) (fun k => k ≤ l.length) (fun k => l.length - k) 0 (Nat.zero_le _) ?_ ?_
                    · conv => whnf
                      refine Retell.turn ⟨[0], 1, [], []⟩ (TurnOk.mk' _ _ [] [] (OutOk.lift _) rfl (by decide) zb trivial trivial rfl) zv zm
                    · rintro k k1
                      have hcb := cntS_bd f x l k
                      conv => whnf
                      refine VIte.dec (fun k3 => ?_) (fun k3 => ?_)
                      · have hv : l[k]? = some l[k] := List.getElem?_eq_getElem (by omega)
                        have bv := hin hv
                        have ev : l.getD k 0 = l[k] := by simp [hv]
                        have hc1 : (l[k] + 1 ≤ x ∧ x ≤ l[k] + f.G → cntS f x l (k + 1) = cntS f x l k + 1) ∧ (¬ (l[k] + 1 ≤ x ∧ x ≤ l[k] + f.G) → cntS f x l (k + 1) = cntS f x l k) := by
                          rw [cntS, ev]
                          exact ⟨fun hc => by rw [if_pos hc], fun hc => by rw [if_neg hc]; rfl⟩
                        generalize l[k] = v at hv bv ev hc1
                        conv => whnf
                        repeat' (first | ((first | refine zs1 ?_ | refine zs2 ?_ | refine zs3 ?_ | refine zs4 ?_ | refine zs5 ?_ | refine zs6 [] ?_); conv => whnf) | ((first | apply zi1 | apply zi2 | apply zi3 | apply zi4 | apply zi5) <;> intro _ <;> conv => whnf) | (refine VAny.ix encI_len k (by omega) rfl hv ?_; conv => whnf) | (refine VAny.ix encI_len i (by omega) rfl hx ?_; conv => whnf))
                        all_goals (
                          refine LEnd.intro (k + 1) (by omega) (by omega) ?_
                          conv => whnf
                          first | rw [hc1.1 (by omega)] | rw [hc1.2 (by omega)]
                          refine Retell.turn ⟨[0], 1, [], []⟩ (TurnOk.mk' _ _ [] [] (OutOk.lift _) rfl (by decide) zb trivial trivial rfl) zv zm)
                      · have hk : k = l.length := by omega
                        subst hk
                        conv => whnf
                        repeat' (first | ((first | refine zs1 ?_ | refine zs2 ?_ | refine zs3 ?_ | refine zs4 ?_ | refine zs5 ?_ | refine zs6 [] ?_); conv => whnf) | ((first | apply zi1 | apply zi2 | apply zi3 | apply zi4 | apply zi5) <;> intro _ <;> conv => whnf))
                        all_goals first
                          | (have hb := hbad.2 (by omega)
                             rw [g3b.1 hb] at hE2
                             rw [hRR 9 hE2]
                             exact VOut.same rfl)
                          | (have hb : badW f t l p i = false := Bool.eq_false_iff.2 fun hb => absurd (hbad.1 hb) (by omega)
                             refine LEnd.intro (i + 1) ⟨by omega, by omega, g3b.2 hb⟩ (by omega) ?_
                             conv => whnf
                             refine Retell.turn ⟨[0], 1, [], []⟩ (TurnOk.mk' _ _ [] [] (OutOk.lift _) rfl (by decide) zb trivial trivial rfl) zv zm)
                  all_goals omega
end Go.Proofs.Ytolnajnlcdacmaa

open Go.Vm
namespace Go.Proofs.Ytolnajnlcdacmaa
set_option maxRecDepth 20000
set_option maxHeartbeats 1000000

theorem drop_eq_dec {α : Type} [DecidableEq α] {a b : List α} {k : Nat} {x y : α} (hx : a[k]? = some x) (hy : b[k]? = some y) : decide (a.drop k = b.drop k) = (decide (x = y) && decide (a.drop (k + 1) = b.drop (k + 1))) := by
  obtain ⟨h1, rfl⟩ := List.getElem?_eq_some_iff.1 hx
  obtain ⟨h2, rfl⟩ := List.getElem?_eq_some_iff.1 hy
  rw [List.drop_eq_getElem_cons h1, List.drop_eq_getElem_cons h2, Bool.eq_iff_iff, Bool.and_eq_true, decide_eq_true_eq, decide_eq_true_eq, decide_eq_true_eq, List.cons.injEq]
theorem ne_I {x y : Int} (h : ¬ x = y) : ¬ x = y := h
theorem eq_I {x y : Int} (h : x = y) : x = y := h
theorem ne_S {x y : Spn} (h : ¬ x = y) : ¬ x = y := h
theorem eq_S {x y : Spn} (h : ¬ ¬ x = y) : x = y := Decidable.not_not.1 h
theorem ne_P {x y : Pap} (h : ¬ x = y) : ¬ x = y := h
theorem eq_P {x y : Pap} (h : ¬ ¬ x = y) : x = y := Decidable.not_not.1 h
theorem top43 : eqTop Try.prog 43 = some (Sh.cons 0 1 false Sh.int (Sh.cons 1 1 false Sh.int Sh.nil)) := by kernel_rfl
theorem top55 : eqTop Try.prog 55 = some (Sh.cons 0 1 false Sh.int (Sh.cons 1 2 true (Sh.cons 0 1 false Sh.int (Sh.cons 1 1 false Sh.int Sh.nil)) Sh.nil)) := by kernel_rfl
theorem vneqS (x y : Spn) : vaggeq Try.prog .neq 43 (.agg [I x.lo, I x.hi]) (.agg [I y.lo, I y.hi]) = some (B (decide (¬ x = y))) := by
  have : (!((x.lo == y.lo) && ((x.hi == y.hi) && true))) = decide (¬ x = y) := by cases x; cases y; rw [Bool.eq_iff_iff, decide_eq_true_eq]; simp [-not_and]; omega
  rw [← this]
  unfold vaggeq
  rw [top43]
  rfl
theorem vneqP (x y : Pap) : vaggeq Try.prog .neq 55 (.agg [I x.side, I x.lo, I x.hi]) (.agg [I y.side, I y.lo, I y.hi]) = some (B (decide (¬ x = y))) := by
  have : (!((x.side == y.side) && (((x.lo == y.lo) && ((x.hi == y.hi) && true)) && true))) = decide (¬ x = y) := by cases x; cases y; rw [Bool.eq_iff_iff, decide_eq_true_eq]; simp [-not_and]; omega
  rw [← this]
  unfold vaggeq
  rw [top55]
  rfl
theorem vc_equalI (a b : List Int) (h : Hp) (ha : a.length ≤ 4000000) (hb : b.length ≤ 4000000) : VC Try.prog 18 [ints a, ints b] h (B (decide (a = b))) h := by
  obtain ⟨E, hE⟩ : ∃ E, E = decide (a = b) := ⟨_, rfl⟩
  rw [← hE]
  refine VC.body Try.func18 rfl Try.ntmps18 Try.call18 (h.grows_refl) rfl ?_; conv => whnf
  refine VCode.lp (fun k : Nat => [(0, ints a), (1, ints b), (4, B false), (7, I a.length), (8, I k)]) (fun _ => []) (fun k => k ≤ a.length ∧ k ≤ b.length ∧ E = decide (a.drop k = b.drop k)) (fun k => a.length - k) 0 ⟨Nat.zero_le _, Nat.zero_le _, hE⟩ ?_ ?_
  · conv => whnf
    refine Retell.turn ⟨[], 0, [], []⟩ (TurnOk.mk' _ _ [] [] (OutOk.lift _) rfl (by decide) zb trivial trivial rfl) zv zm
  · rintro k ⟨h1, h2, h3⟩
    conv => whnf
    refine VIte.dec (fun h4 => ?_) (fun h4 => ?_)
    · have hx : a[k]? = some a[k] := List.getElem?_eq_getElem (by omega)
      rcases Nat.eq_or_lt_of_le h2 with h5 | h5
      · have hF : E = false := by
          rw [h3, decide_eq_false_iff_not]
          intro hh
          have := congrArg List.length hh
          simp at this; omega
        rw [hF]
        conv => whnf
        repeat' (first | ((first | refine zs1 ?_ | refine zs2 ?_ | refine zs3 ?_ | refine zs4 ?_ | refine zs5 ?_ | refine zs6 [] ?_); conv => whnf) | ((first | apply zi1 | apply zi2 | apply zi3 | apply zi4 | apply zi5) <;> intro _ <;> conv => whnf))
        · exact VOut.same rfl
        all_goals omega
      · have hy : b[k]? = some b[k] := List.getElem?_eq_getElem h5
        rw [drop_eq_dec hx hy] at h3
        generalize a[k] = x at hx h3
        generalize b[k] = y at hy h3
        conv => whnf
        repeat' (first | ((first | refine zs1 ?_ | refine zs2 ?_ | refine zs3 ?_ | refine zs4 ?_ | refine zs5 ?_ | refine zs6 [] ?_); conv => whnf) | ((first | apply zi1 | apply zi2 | apply zi3 | apply zi4 | apply zi5) <;> intro _ <;> conv => whnf) | (refine VAny.ix encI_len k rfl rfl hx ?_; conv => whnf) | (refine VAny.ix encI_len k rfl rfl hy ?_; conv => whnf))
        all_goals (try omega)
        all_goals first
          | (rw [decide_eq_false (ne_I (by first | assumption | omega)), Bool.false_and] at h3; rw [h3]; exact VOut.same rfl)
          | (rw [decide_eq_true (eq_I (by first | assumption | omega)), Bool.true_and] at h3
             refine LEnd.intro (k + 1) ⟨by omega, by omega, h3⟩ (by omega) ?_
             conv => whnf
             refine Retell.turn ⟨[], 0, [], []⟩ (TurnOk.mk' _ _ [] [] (OutOk.lift _) rfl (by decide) zb trivial trivial rfl) zv zm)
    · have hk : k = a.length := by omega
      rw [h3, hk, List.drop_length]
      conv => whnf
      repeat' (first | ((first | refine zs1 ?_ | refine zs2 ?_ | refine zs3 ?_ | refine zs4 ?_ | refine zs5 ?_ | refine zs6 [] ?_); conv => whnf) | ((first | apply zi1 | apply zi2 | apply zi3 | apply zi4 | apply zi5) <;> intro _ <;> conv => whnf))
      refine VOut.same ?_
      have : ((a.length : Int) == b.length) = decide ([] = b.drop a.length) := by
        rw [Bool.eq_iff_iff, decide_eq_true_eq, beq_iff_eq]
        constructor
        · intro hh; rw [List.drop_of_length_le (by omega)]
        · intro hh
          have := congrArg List.length hh
          simp at this; omega
      simp only [V.ren, this]
theorem vc_equalS (a b : List Spn) (h : Hp) (ha : a.length ≤ 4000000) (hb : b.length ≤ 4000000) : VC Try.prog 39 [spans a, spans b] h (B (decide (a = b))) h := by
  obtain ⟨E, hE⟩ : ∃ E, E = decide (a = b) := ⟨_, rfl⟩
  rw [← hE]
  refine VC.body Try.func39 rfl Try.ntmps39 Try.call39 (h.grows_refl) rfl ?_; conv => whnf
  refine VCode.lp (fun k : Nat => [(0, spans a), (1, spans b), (4, B false), (7, I a.length), (8, I k)]) (fun _ => []) (fun k => k ≤ a.length ∧ k ≤ b.length ∧ E = decide (a.drop k = b.drop k)) (fun k => a.length - k) 0 ⟨Nat.zero_le _, Nat.zero_le _, hE⟩ ?_ ?_
  · conv => whnf
    refine Retell.turn ⟨[], 0, [], []⟩ (TurnOk.mk' _ _ [] [] (OutOk.lift _) rfl (by decide) zb trivial trivial rfl) zv zm
  · rintro k ⟨h1, h2, h3⟩
    conv => whnf
    refine VIte.dec (fun h4 => ?_) (fun h4 => ?_)
    · have hx : a[k]? = some a[k] := List.getElem?_eq_getElem (by omega)
      rcases Nat.eq_or_lt_of_le h2 with h5 | h5
      · have hF : E = false := by
          rw [h3, decide_eq_false_iff_not]
          intro hh
          have := congrArg List.length hh
          simp at this; omega
        rw [hF]
        conv => whnf
        repeat' (first | ((first | refine zs1 ?_ | refine zs2 ?_ | refine zs3 ?_ | refine zs4 ?_ | refine zs5 ?_ | refine zs6 [] ?_); conv => whnf) | ((first | apply zi1 | apply zi2 | apply zi3 | apply zi4 | apply zi5) <;> intro _ <;> conv => whnf))
        · exact VOut.same rfl
        all_goals omega
      · have hy : b[k]? = some b[k] := List.getElem?_eq_getElem h5
        rw [drop_eq_dec hx hy] at h3
        generalize a[k] = x at hx h3
        generalize b[k] = y at hy h3
        conv => whnf
        repeat' (first | ((first | refine zs1 ?_ | refine zs2 ?_ | refine zs3 ?_ | refine zs4 ?_ | refine zs5 ?_ | refine zs6 [] ?_); conv => whnf) | ((first | apply zi1 | apply zi2 | apply zi3 | apply zi4 | apply zi5) <;> intro _ <;> conv => whnf) | (refine VAny.ix encS_len k rfl rfl hx ?_; conv => whnf) | (refine VAny.ix encS_len k rfl rfl hy ?_; conv => whnf) | (refine VAgg.intro (vneqS _ _) ?_; conv => whnf))
        all_goals (try omega)
        all_goals first
          | (rw [decide_eq_false (ne_S (by first | assumption | omega)), Bool.false_and] at h3; rw [h3]; exact VOut.same rfl)
          | (rw [decide_eq_true (eq_S (by first | assumption | omega)), Bool.true_and] at h3
             refine LEnd.intro (k + 1) ⟨by omega, by omega, h3⟩ (by omega) ?_
             conv => whnf
             refine Retell.turn ⟨[], 0, [], []⟩ (TurnOk.mk' _ _ [] [] (OutOk.lift _) rfl (by decide) zb trivial trivial rfl) zv zm)
    · have hk : k = a.length := by omega
      rw [h3, hk, List.drop_length]
      conv => whnf
      repeat' (first | ((first | refine zs1 ?_ | refine zs2 ?_ | refine zs3 ?_ | refine zs4 ?_ | refine zs5 ?_ | refine zs6 [] ?_); conv => whnf) | ((first | apply zi1 | apply zi2 | apply zi3 | apply zi4 | apply zi5) <;> intro _ <;> conv => whnf))
      refine VOut.same ?_
      have : ((a.length : Int) == b.length) = decide ([] = b.drop a.length) := by
        rw [Bool.eq_iff_iff, decide_eq_true_eq, beq_iff_eq]
        constructor
        · intro hh; rw [List.drop_of_length_le (by omega)]
        · intro hh
          have := congrArg List.length hh
          simp at this; omega
      simp only [V.ren, this]
theorem vc_equalP (a b : List Pap) (h : Hp) (ha : a.length ≤ 4000000) (hb : b.length ≤ 4000000) : VC Try.prog 66 [paps a, paps b] h (B (decide (a = b))) h := by
  obtain ⟨E, hE⟩ : ∃ E, E = decide (a = b) := ⟨_, rfl⟩
  rw [← hE]
  refine VC.body Try.func66 rfl Try.ntmps66 Try.call66 (h.grows_refl) rfl ?_; conv => whnf
  refine VCode.lp (fun k : Nat => [(0, paps a), (1, paps b), (4, B false), (7, I a.length), (8, I k)]) (fun _ => []) (fun k => k ≤ a.length ∧ k ≤ b.length ∧ E = decide (a.drop k = b.drop k)) (fun k => a.length - k) 0 ⟨Nat.zero_le _, Nat.zero_le _, hE⟩ ?_ ?_
  · conv => whnf
    refine Retell.turn ⟨[], 0, [], []⟩ (TurnOk.mk' _ _ [] [] (OutOk.lift _) rfl (by decide) zb trivial trivial rfl) zv zm
  · rintro k ⟨h1, h2, h3⟩
    conv => whnf
    refine VIte.dec (fun h4 => ?_) (fun h4 => ?_)
    · have hx : a[k]? = some a[k] := List.getElem?_eq_getElem (by omega)
      rcases Nat.eq_or_lt_of_le h2 with h5 | h5
      · have hF : E = false := by
          rw [h3, decide_eq_false_iff_not]
          intro hh
          have := congrArg List.length hh
          simp at this; omega
        rw [hF]
        conv => whnf
        repeat' (first | ((first | refine zs1 ?_ | refine zs2 ?_ | refine zs3 ?_ | refine zs4 ?_ | refine zs5 ?_ | refine zs6 [] ?_); conv => whnf) | ((first | apply zi1 | apply zi2 | apply zi3 | apply zi4 | apply zi5) <;> intro _ <;> conv => whnf))
        · exact VOut.same rfl
        all_goals omega
      · have hy : b[k]? = some b[k] := List.getElem?_eq_getElem h5
        rw [drop_eq_dec hx hy] at h3
        generalize a[k] = x at hx h3
        generalize b[k] = y at hy h3
        conv => whnf
        repeat' (first | ((first | refine zs1 ?_ | refine zs2 ?_ | refine zs3 ?_ | refine zs4 ?_ | refine zs5 ?_ | refine zs6 [] ?_); conv => whnf) | ((first | apply zi1 | apply zi2 | apply zi3 | apply zi4 | apply zi5) <;> intro _ <;> conv => whnf) | (refine VAny.ix encP_len k rfl rfl hx ?_; conv => whnf) | (refine VAny.ix encP_len k rfl rfl hy ?_; conv => whnf) | (refine VAgg.intro (vneqP _ _) ?_; conv => whnf))
        all_goals (try omega)
        all_goals first
          | (rw [decide_eq_false (ne_P (by first | assumption | omega)), Bool.false_and] at h3; rw [h3]; exact VOut.same rfl)
          | (rw [decide_eq_true (eq_P (by first | assumption | omega)), Bool.true_and] at h3
             refine LEnd.intro (k + 1) ⟨by omega, by omega, h3⟩ (by omega) ?_
             conv => whnf
             refine Retell.turn ⟨[], 0, [], []⟩ (TurnOk.mk' _ _ [] [] (OutOk.lift _) rfl (by decide) zb trivial trivial rfl) zv zm)
    · have hk : k = a.length := by omega
      rw [h3, hk, List.drop_length]
      conv => whnf
      repeat' (first | ((first | refine zs1 ?_ | refine zs2 ?_ | refine zs3 ?_ | refine zs4 ?_ | refine zs5 ?_ | refine zs6 [] ?_); conv => whnf) | ((first | apply zi1 | apply zi2 | apply zi3 | apply zi4 | apply zi5) <;> intro _ <;> conv => whnf))
      refine VOut.same ?_
      have : ((a.length : Int) == b.length) = decide ([] = b.drop a.length) := by
        rw [Bool.eq_iff_iff, decide_eq_true_eq, beq_iff_eq]
        constructor
        · intro hh; rw [List.drop_of_length_le (by omega)]
        · intro hh
          have := congrArg List.length hh
          simp at this; omega
      simp only [V.ren, this]
end Go.Proofs.Ytolnajnlcdacmaa

open Go.Vm
namespace Go.Proofs.Ytolnajnlcdacmaa
set_option maxRecDepth 20000
set_option maxHeartbeats 1000000

theorem vc_cloneI (l : List Int) (h : Hp) (hl : l.length ≤ 4000000) : VC Try.prog 33 [ints l] h (ints l) h := by
  refine VC.body Try.func33 rfl Try.ntmps33 Try.call33 (h.grows_refl) rfl ?_; conv => whnf
  repeat (first | ((first | refine zs1 ?_ | refine zs2 ?_ | refine zs3 ?_ | refine zs4 ?_ | refine zs5 ?_ | refine zs6 [] ?_); conv => whnf))
  refine VMem.appNil encI_len rfl rfl rfl (by omega) ?_
  conv => whnf
  repeat (first | ((first | refine zs1 ?_ | refine zs2 ?_ | refine zs3 ?_ | refine zs4 ?_ | refine zs5 ?_ | refine zs6 [] ?_); conv => whnf))
  refine VOut.data 1 [(0, l.flatMap encI)] [] rfl zf (by exact FmAll.nil) zv
theorem vc_cloneP (l : List Pap) (h : Hp) (hl : l.length ≤ 4000000) : VC Try.prog 53 [paps l] h (paps l) h := by
  refine VC.body Try.func53 rfl Try.ntmps53 Try.call53 (h.grows_refl) rfl ?_; conv => whnf
  repeat (first | ((first | refine zs1 ?_ | refine zs2 ?_ | refine zs3 ?_ | refine zs4 ?_ | refine zs5 ?_ | refine zs6 [] ?_); conv => whnf))
  refine VMem.appNil encP_len rfl rfl rfl (by omega) ?_
  conv => whnf
  repeat (first | ((first | refine zs1 ?_ | refine zs2 ?_ | refine zs3 ?_ | refine zs4 ?_ | refine zs5 ?_ | refine zs6 [] ?_); conv => whnf))
  refine VOut.data 1 [(0, l.flatMap encP)] [] rfl zf (by exact FmAll.nil) zv
theorem vc_CloneFile (f : Fil) (h : Hp) (hl : f.ps.length ≤ 4000000) : VC Try.prog 14 [vF f] h (vF f) h := by
  refine VC.body Try.func14 rfl Try.ntmps14 Try.call14 (h.grows_refl) rfl ?_; conv => whnf
  repeat' (first | ((first | refine zs1 ?_ | refine zs2 ?_ | refine zs3 ?_ | refine zs4 ?_ | refine zs5 ?_ | refine zs6 [(1, 6), (3, 6)] ?_); conv => whnf) | ((first | apply zi1 | apply zi2 | apply zi3 | apply zi4 | apply zi5) <;> intro _ <;> conv => whnf) | (refine VCall.intro (vc_cloneP f.ps _ hl) ?_; conv => whnf))
  exact VOut.same rfl
theorem vc_equal (f g : Fil) (h : Hp) (hf : f.ps.length ≤ 4000000) (hg : g.ps.length ≤ 4000000) : VC Try.prog 24 [vF f, vF g] h (B (decide (f.Y = g.Y ∧ f.G = g.G ∧ f.ps = g.ps))) h := by
  refine VC.body Try.func24 rfl Try.ntmps24 Try.call24 (h.grows_refl) rfl ?_; conv => whnf
  repeat' (first | ((first | refine zs1 ?_ | refine zs2 ?_ | refine zs3 ?_ | refine zs4 ?_ | refine zs5 ?_ | refine zs6 [] ?_); conv => whnf) | ((first | apply zi1 | apply zi2 | apply zi3 | apply zi4 | apply zi5) <;> intro _ <;> conv => whnf) | (refine VCall.intro (vc_equalP _ _ _ hf hg) ?_; conv => whnf))
  all_goals (refine VOut.same ?_; simp_all [V.ren])
theorem vc_File (f : Fil) (h : Hp) (hl : f.ps.length ≤ 4000000) : VC Try.prog 15 [vF f] h (vF f) h := by
  refine VC.body Try.func15 rfl Try.ntmps15 Try.call15 (h.grows_refl) rfl ?_; conv => whnf
  repeat (first | ((first | refine zs1 ?_ | refine zs2 ?_ | refine zs3 ?_ | refine zs4 ?_ | refine zs5 ?_ | refine zs6 [] ?_); conv => whnf))
  refine VCode.lp (fun k : Nat => [(2, .ptr (.loc 0) 0), (3, .ptr (.loc 1) 0), (12, paps f.ps), (13, I f.ps.length), (14, I k)])
    (fun k => [.flat true [DI 0, DI 0, .nilslice], .cells true [I f.Y, I f.G, .gl (.loc 2) 3 k], .flat true ((f.ps.take k).flatMap encP)]) (fun k => k ≤ f.ps.length) (fun k => f.ps.length - k) 0 (Nat.zero_le _) ?_ ?_
  · conv => whnf
    refine Retell.turn ⟨[1,2,3], 3, [], []⟩ (TurnOk.mk' _ _ [] [] (OutOk.lift _) rfl (by decide) zb trivial trivial rfl) zv zm
  · intro k hk
    conv => whnf
    refine VIte.dec (fun h3 => ?_) (fun h3 => ?_)
    · have hp : f.ps[k]? = some f.ps[k] := List.getElem?_eq_getElem (by omega)
      have hts : f.ps.take (k + 1) = f.ps.take k ++ [f.ps[k]] := by rw [List.take_add_one, hp]; rfl
      generalize f.ps[k] = p at hp hts
      have hlk : (f.ps.take k).length = k := by simp; omega
      conv => whnf
      repeat' (first | ((first | refine zs1 ?_ | refine zs2 ?_ | refine zs3 ?_ | refine zs4 ?_ | refine zs5 ?_ | refine zs6 [] ?_); conv => whnf) | ((first | apply zi1 | apply zi2 | apply zi3 | apply zi4 | apply zi5) <;> intro _ <;> conv => whnf) | (refine VAny.ix encP_len k rfl rfl hp ?_; conv => whnf))
      refine VMem.app1 (l := f.ps.take k) p encP_len rfl rfl rfl hlk.symm rfl (by omega) ?_
      conv => whnf
      repeat (first | ((first | refine zs1 ?_ | refine zs2 ?_ | refine zs3 ?_ | refine zs4 ?_ | refine zs5 ?_ | refine zs6 [] ?_); conv => whnf))
      refine LEnd.intro (k + 1) (by omega) (by omega) ?_
      conv => whnf
      rw [hts]
      refine Retell.turn ⟨[0,1,5], 6, [], []⟩ (TurnOk.mk' _ _ [] [] (OutOk.lift _) rfl (by decide) zb trivial trivial rfl) zv zm
    · have hk2 : k = f.ps.length := by omega
      subst hk2
      rw [List.take_of_length_le (Nat.le_refl _)]
      conv => whnf
      repeat (first | ((first | refine zs1 ?_ | refine zs2 ?_ | refine zs3 ?_ | refine zs4 ?_ | refine zs5 ?_ | refine zs6 [] ?_); conv => whnf))
      refine VOut.data 3 [(2, f.ps.flatMap encP)] [] rfl zf (by exact FmAll.nil) zv
def datP (y : Int) : Pap := if y < 0 then ⟨1, -y, -y⟩ else ⟨0, y, y⟩
theorem vc_Dated (Y G : Int) (l : List Int) (h : Hp) (hl : l.length ≤ 4000000) (hb : ∀ y ∈ l, -100000 ≤ y ∧ y ≤ 100000) : VC Try.prog 52 [I Y, I G, ints l] h (vF ⟨Y, G, l.map datP⟩) h := by
  refine VC.body Try.func52 rfl Try.ntmps52 Try.call52 (h.grows_refl) rfl ?_; conv => whnf
  repeat (first | ((first | refine zs1 ?_ | refine zs2 ?_ | refine zs3 ?_ | refine zs4 ?_ | refine zs5 ?_ | refine zs6 [] ?_); conv => whnf))
  refine VCode.lp (fun k : Nat => [(6, .ptr (.loc 0) 0), (7, .ptr (.loc 1) 0), (14, ints l), (15, I l.length), (16, I k)])
    (fun k => [.flat true [DI 0, DI 0, .nilslice], .cells true [I Y, I G, .gl (.loc 2) 3 k], .flat true (((l.take k).map datP).flatMap encP)]) (fun k => k ≤ l.length) (fun k => l.length - k) 0 (Nat.zero_le _) ?_ ?_
  · conv => whnf
    refine Retell.turn ⟨[0,1,2], 2, [], []⟩ (TurnOk.mk' _ _ [] [] (OutOk.lift _) rfl (by decide) zb trivial trivial rfl) zv zm
  · intro k hk
    conv => whnf
    refine VIte.dec (fun h3 => ?_) (fun h3 => ?_)
    · have hp : l[k]? = some l[k] := List.getElem?_eq_getElem (by omega)
      have hts : l.take (k + 1) = l.take k ++ [l[k]] := by rw [List.take_add_one, hp]; rfl
      have hbk := hb l[k] (List.getElem_mem (by omega))
      generalize l[k] = y at hp hts hbk
      have hlk : ((l.take k).map datP).length = k := by simp; omega
      conv => whnf
      repeat' (first | ((first | refine zs1 ?_ | refine zs2 ?_ | refine zs3 ?_ | refine zs4 ?_ | refine zs5 ?_ | refine zs6 [] ?_); conv => whnf) | ((first | apply zi1 | apply zi2 | apply zi3 | apply zi4 | apply zi5) <;> intro _ <;> conv => whnf) | (refine VAny.ix encI_len k rfl rfl hp ?_; conv => whnf))
      · rename_i hy
        have hd : datP y = ⟨1, 0 - y, 0 - y⟩ := by rw [datP, if_pos hy]; simp
        refine VMem.app1 (l := (l.take k).map datP) (⟨1, 0 - y, 0 - y⟩ : Pap) encP_len rfl rfl rfl hlk.symm rfl (by omega) ?_
        conv => whnf
        repeat (first | ((first | refine zs1 ?_ | refine zs2 ?_ | refine zs3 ?_ | refine zs4 ?_ | refine zs5 ?_ | refine zs6 [] ?_); conv => whnf))
        refine LEnd.intro (k + 1) (by omega) (by omega) ?_
        conv => whnf
        rw [hts, List.map_append, List.map_cons, List.map_nil, hd]
        refine Retell.turn ⟨[0,1,5], 6, [], []⟩ (TurnOk.mk' _ _ [] [] (OutOk.lift _) rfl (by decide) zb trivial trivial rfl) zv zm
      · rename_i hy
        have hd : datP y = ⟨0, y, y⟩ := if_neg hy
        refine VMem.app1 (l := (l.take k).map datP) (⟨0, y, y⟩ : Pap) encP_len rfl rfl rfl hlk.symm rfl (by omega) ?_
        conv => whnf
        repeat (first | ((first | refine zs1 ?_ | refine zs2 ?_ | refine zs3 ?_ | refine zs4 ?_ | refine zs5 ?_ | refine zs6 [] ?_); conv => whnf))
        refine LEnd.intro (k + 1) (by omega) (by omega) ?_
        conv => whnf
        rw [hts, List.map_append, List.map_cons, List.map_nil, hd]
        refine Retell.turn ⟨[0,1,5], 6, [], []⟩ (TurnOk.mk' _ _ [] [] (OutOk.lift _) rfl (by decide) zb trivial trivial rfl) zv zm
    · have hk2 : k = l.length := by omega
      subst hk2
      rw [List.take_of_length_le (Nat.le_refl _)]
      rw [show vF ⟨Y, G, l.map datP⟩ = .agg [I Y, I G, .fs 3 l.length ((l.map datP).flatMap encP)] from by simp [vF, paps]]
      conv => whnf
      repeat (first | ((first | refine zs1 ?_ | refine zs2 ?_ | refine zs3 ?_ | refine zs4 ?_ | refine zs5 ?_ | refine zs6 [] ?_); conv => whnf))
      refine VOut.data 3 [(2, (l.map datP).flatMap encP)] [] rfl zf (by exact FmAll.nil) zv
def widGo (n : Int) : List Pap → Int → Bool
  | [], _ => false
  | p :: r, w => let w' := if 0 ≤ p.lo ∧ p.hi ≤ 3000 ∧ p.lo ≤ p.hi then w * min 9 (p.hi - p.lo + 1) else w
    if n < w' then true else widGo n r w'
def wideB (f : Fil) (n : Int) (ls : List (List Int)) : Bool := ls.any (fun l => decide (20 < l.length)) || (decide (20 < f.ps.length) || widGo n f.ps 1)
end Go.Proofs.Ytolnajnlcdacmaa

open Go.Vm
namespace Go.Proofs.Ytolnajnlcdacmaa
set_option maxRecDepth 20000
set_option maxHeartbeats 1000000

theorem any_drop {α : Type} {q : α → Bool} {l : List α} {k : Nat} {x : α} (hx : l[k]? = some x) : (l.drop k).any q = (q x || (l.drop (k + 1)).any q) := by
  obtain ⟨h1, rfl⟩ := List.getElem?_eq_some_iff.1 hx
  rw [List.drop_eq_getElem_cons h1, List.any_cons]
def widW (p : Pap) (w : Int) : Int := if 0 ≤ p.lo ∧ p.hi ≤ 3000 ∧ p.lo ≤ p.hi then w * min 9 (p.hi - p.lo + 1) else w
theorem widGo_at {n : Int} {ps : List Pap} {k : Nat} {p : Pap} {w : Int} (hp : ps[k]? = some p) : widGo n (ps.drop k) w = if n < widW p w then true else widGo n (ps.drop (k + 1)) (widW p w) := by
  obtain ⟨h1, rfl⟩ := List.getElem?_eq_some_iff.1 hp
  rw [List.drop_eq_getElem_cons h1, widGo]
  rfl
theorem widW_bd {p : Pap} {w : Int} (hw : 1 ≤ w) : 1 ≤ widW p w ∧ widW p w ≤ w * 9 := by
  unfold widW
  split
  · have h1 : 1 ≤ min 9 (p.hi - p.lo + 1) := by omega
    have h2 : min 9 (p.hi - p.lo + 1) ≤ 9 := by omega
    constructor
    · have := Int.mul_le_mul hw h1 (by omega) (by omega); omega
    · exact Int.mul_le_mul_of_nonneg_left h2 (by omega)
  · omega
theorem vc_wide (f : Fil) (n : Int) (ls : List (List Int)) (h : Hp) (hn : n ≤ 1000000) (hl : ls.length ≤ 4000000) : VC Try.prog 12 [vF f, I n, intss ls] h (B (wideB f n ls)) h := by
  obtain ⟨E, hE⟩ : ∃ E, E = wideB f n ls := ⟨_, rfl⟩
  rw [← hE]
  unfold wideB at hE
  refine VC.body Try.func12 rfl Try.ntmps12 Try.call12 (h.grows_refl) rfl ?_; conv => whnf
  repeat (first | (refine VLd.intro rfl ?_; conv => whnf) | (refine VArith.i64 (by omega) ?_; conv => whnf) | (refine VNeed.intro (by first | rfl | assumption | (simp; omega) | (simp; done)) ?_; conv => whnf) | (refine VMem.store rfl rfl rfl rfl ?_; conv => whnf) | (refine VSame.intro (by (conv => lhs; whnf); (conv => rhs; whnf); try rfl) ?_; conv => whnf) | (refine VDraw.go [] (by kernel_rfl) (by kernel_rfl) ?_; conv => whnf))
  refine VCode.lp (fun k : Nat => [(1, I n), (3, .ptr (.loc 0) 0), (12, intss ls), (13, I ls.length), (14, I k)]) (fun _ => [.flat true (encF f)]) (fun k => ls.any (fun l => decide (20 < l.length)) = (ls.drop k).any (fun l => decide (20 < l.length))) (fun k => ls.length - k) 0 rfl ?_ ?_
  · conv => whnf
    refine Retell.turn ⟨[0], 1, [], []⟩ (TurnOk.mk' _ _ [] [] (OutOk.lift _) rfl (by decide) (by repeat' (first | exact BTos.nil | refine BTos.flat rfl rfl (by first | rfl | simp) ?_ | refine BTos.new rfl ?_ | refine BTos.dead rfl rfl ?_ | refine BTos.esE rfl rfl ?_ | refine BTos.row rfl rfl rfl (RowTo.snoc (RowTo.one rfl (by simp))) ?_ | refine BTos.cells rfl rfl rfl (by repeat' (first | exact VTo.undef | exact FrTo.leaf | refine FrTo.node ?_ ?_ ?_ | refine FrTo.none ?_ ?_ | exact VTo.sc (by first | rfl | (congr 1; omega) | (congr 1; simp; omega)) | exact VTos_dv _ _ | refine VTos.cons ?_ ?_ | exact VTos.nil | refine VTo.agg ?_ | refine VTo.tuple ?_ | refine VTo.func ?_ ?_ | exact VTo.fs | exact VTo.fp | exact VTo.nilptr | exact VTo.nilslice | exact VTo.nilfunc | exact VTo.ptr rfl | exact VTo.gl rfl | exact VTo.map rfl | exact VTo.yld rfl | exact VTo.fmMap rfl | exact VTo.fm | exact VTo.glNil' (by decide) rfl rfl | exact VTo.fsNil (by decide) | exact VTo.fsSl rfl rfl (by simp [flat_len encE_len]) | exact VTo.fpPtr rfl | exact VTo.fsGl rfl (by first | rfl | assumption | exact flat_len encI_len _ | exact flat_len encT_len _ | exact flat_len encS_len _ | exact flat_len encP_len _ | exact flat_len encL_len _ | exact flat_len encE_len _ | (simp [flat_len encP_len]; done) | simp [flat_len encI_len, flat_len encS_len]))) ?_)) trivial trivial rfl) (by repeat' (first | exact VTo.undef | exact FrTo.leaf | refine FrTo.node ?_ ?_ ?_ | refine FrTo.none ?_ ?_ | exact VTo.sc (by first | rfl | (congr 1; omega) | (congr 1; simp; omega)) | exact VTos_dv _ _ | refine VTos.cons ?_ ?_ | exact VTos.nil | refine VTo.agg ?_ | refine VTo.tuple ?_ | refine VTo.func ?_ ?_ | exact VTo.fs | exact VTo.fp | exact VTo.nilptr | exact VTo.nilslice | exact VTo.nilfunc | exact VTo.ptr rfl | exact VTo.gl rfl | exact VTo.map rfl | exact VTo.yld rfl | exact VTo.fmMap rfl | exact VTo.fm | exact VTo.glNil' (by decide) rfl rfl | exact VTo.fsNil (by decide) | exact VTo.fsSl rfl rfl (by simp [flat_len encE_len]) | exact VTo.fpPtr rfl | exact VTo.fsGl rfl (by first | rfl | assumption | exact flat_len encI_len _ | exact flat_len encT_len _ | exact flat_len encS_len _ | exact flat_len encP_len _ | exact flat_len encL_len _ | exact flat_len encE_len _ | (simp [flat_len encP_len]; done) | simp [flat_len encI_len, flat_len encS_len]))) (by first | rfl | (repeat' (first | exact MkTo.nil | refine MkTo.keep rfl ?_ | refine MkTo.drop (by decide) rfl ?_)))
  · rintro k h1
    conv => whnf
    refine VIte.dec (fun h3 => ?_) (fun h3 => ?_)
    · have hx : ls[k]? = some ls[k] := List.getElem?_eq_getElem (by omega)
      generalize ls[k] = x at hx
      rw [any_drop hx] at h1
      conv => whnf
      repeat' (first | (refine VLd.intro rfl ?_; conv => whnf) | (refine VArith.i64 (by omega) ?_; conv => whnf) | (refine VNeed.intro (by first | rfl | assumption | (simp; omega) | (simp; done)) ?_; conv => whnf) | (refine VMem.store rfl rfl rfl rfl ?_; conv => whnf) | (refine VSame.intro (by (conv => lhs; whnf); (conv => rhs; whnf); try rfl) ?_; conv => whnf) | (refine VDraw.go [] (by kernel_rfl) (by kernel_rfl) ?_; conv => whnf) | (refine VIte.dec (fun _ => ?_) (fun _ => ?_) <;> conv => whnf) | (refine VIte.ndec (fun _ => ?_) (fun _ => ?_) <;> conv => whnf) | (refine VIte.beq (fun _ => ?_) (fun _ => ?_) <;> conv => whnf) | (refine VIte.bne (fun _ => ?_) (fun _ => ?_) <;> conv => whnf) | (refine VIte.intro (fun _ => ?_) (fun _ => ?_) <;> conv => whnf) | (refine VAny.ix encL_len k rfl rfl hx ?_; conv => whnf))
      · rw [decide_eq_true (by omega), Bool.true_or] at h1
        rw [h1, Bool.true_or] at hE
        rw [hE]
        exact VOut.same rfl
      · rw [decide_eq_false (by omega), Bool.false_or] at h1
        refine LEnd.intro (k + 1) h1 (by omega) ?_
        conv => whnf
        refine Retell.turn ⟨[0], 1, [], []⟩ (TurnOk.mk' _ _ [] [] (OutOk.lift _) rfl (by decide) (by repeat' (first | exact BTos.nil | refine BTos.flat rfl rfl (by first | rfl | simp) ?_ | refine BTos.new rfl ?_ | refine BTos.dead rfl rfl ?_ | refine BTos.esE rfl rfl ?_ | refine BTos.row rfl rfl rfl (RowTo.snoc (RowTo.one rfl (by simp))) ?_ | refine BTos.cells rfl rfl rfl (by repeat' (first | exact VTo.undef | exact FrTo.leaf | refine FrTo.node ?_ ?_ ?_ | refine FrTo.none ?_ ?_ | exact VTo.sc (by first | rfl | (congr 1; omega) | (congr 1; simp; omega)) | exact VTos_dv _ _ | refine VTos.cons ?_ ?_ | exact VTos.nil | refine VTo.agg ?_ | refine VTo.tuple ?_ | refine VTo.func ?_ ?_ | exact VTo.fs | exact VTo.fp | exact VTo.nilptr | exact VTo.nilslice | exact VTo.nilfunc | exact VTo.ptr rfl | exact VTo.gl rfl | exact VTo.map rfl | exact VTo.yld rfl | exact VTo.fmMap rfl | exact VTo.fm | exact VTo.glNil' (by decide) rfl rfl | exact VTo.fsNil (by decide) | exact VTo.fsSl rfl rfl (by simp [flat_len encE_len]) | exact VTo.fpPtr rfl | exact VTo.fsGl rfl (by first | rfl | assumption | exact flat_len encI_len _ | exact flat_len encT_len _ | exact flat_len encS_len _ | exact flat_len encP_len _ | exact flat_len encL_len _ | exact flat_len encE_len _ | (simp [flat_len encP_len]; done) | simp [flat_len encI_len, flat_len encS_len]))) ?_)) trivial trivial rfl) (by repeat' (first | exact VTo.undef | exact FrTo.leaf | refine FrTo.node ?_ ?_ ?_ | refine FrTo.none ?_ ?_ | exact VTo.sc (by first | rfl | (congr 1; omega) | (congr 1; simp; omega)) | exact VTos_dv _ _ | refine VTos.cons ?_ ?_ | exact VTos.nil | refine VTo.agg ?_ | refine VTo.tuple ?_ | refine VTo.func ?_ ?_ | exact VTo.fs | exact VTo.fp | exact VTo.nilptr | exact VTo.nilslice | exact VTo.nilfunc | exact VTo.ptr rfl | exact VTo.gl rfl | exact VTo.map rfl | exact VTo.yld rfl | exact VTo.fmMap rfl | exact VTo.fm | exact VTo.glNil' (by decide) rfl rfl | exact VTo.fsNil (by decide) | exact VTo.fsSl rfl rfl (by simp [flat_len encE_len]) | exact VTo.fpPtr rfl | exact VTo.fsGl rfl (by first | rfl | assumption | exact flat_len encI_len _ | exact flat_len encT_len _ | exact flat_len encS_len _ | exact flat_len encP_len _ | exact flat_len encL_len _ | exact flat_len encE_len _ | (simp [flat_len encP_len]; done) | simp [flat_len encI_len, flat_len encS_len]))) (by first | rfl | (repeat' (first | exact MkTo.nil | refine MkTo.keep rfl ?_ | refine MkTo.drop (by decide) rfl ?_)))
    · rw [h1, List.drop_of_length_le (by omega), List.any_nil, Bool.false_or] at hE
      conv => whnf
      repeat' (first | (refine VLd.intro rfl ?_; conv => whnf) | (refine VArith.i64 (by omega) ?_; conv => whnf) | (refine VNeed.intro (by first | rfl | assumption | (simp; omega) | (simp; done)) ?_; conv => whnf) | (refine VMem.store rfl rfl rfl rfl ?_; conv => whnf) | (refine VSame.intro (by (conv => lhs; whnf); (conv => rhs; whnf); try rfl) ?_; conv => whnf) | (refine VDraw.go [] (by kernel_rfl) (by kernel_rfl) ?_; conv => whnf) | (refine VIte.dec (fun _ => ?_) (fun _ => ?_) <;> conv => whnf) | (refine VIte.ndec (fun _ => ?_) (fun _ => ?_) <;> conv => whnf) | (refine VIte.beq (fun _ => ?_) (fun _ => ?_) <;> conv => whnf) | (refine VIte.bne (fun _ => ?_) (fun _ => ?_) <;> conv => whnf) | (refine VIte.intro (fun _ => ?_) (fun _ => ?_) <;> conv => whnf))
      · rw [decide_eq_true (by omega), Bool.true_or] at hE
        rw [hE]
        exact VOut.same rfl
      · rw [decide_eq_false (by omega), Bool.false_or] at hE
        refine VCode.lp (fun x : Nat × Int => [(1, I n), (3, .ptr (.loc 0) 0), (9, I x.2), (27, paps f.ps), (28, I f.ps.length), (29, I x.1)]) (fun _ => [.flat true (encF f)]) (fun x => E = widGo n (f.ps.drop x.1) x.2 ∧ 1 ≤ x.2 ∧ x.2 ≤ 1000000) (fun x => f.ps.length - x.1) (0, 1) ⟨hE, by simp only; omega, by simp only; omega⟩ ?_ ?_
        · conv => whnf
          refine Retell.turn ⟨[0], 1, [], []⟩ (TurnOk.mk' _ _ [] [] (OutOk.lift _) rfl (by decide) (by repeat' (first | exact BTos.nil | refine BTos.flat rfl rfl (by first | rfl | simp) ?_ | refine BTos.new rfl ?_ | refine BTos.dead rfl rfl ?_ | refine BTos.esE rfl rfl ?_ | refine BTos.row rfl rfl rfl (RowTo.snoc (RowTo.one rfl (by simp))) ?_ | refine BTos.cells rfl rfl rfl (by repeat' (first | exact VTo.undef | exact FrTo.leaf | refine FrTo.node ?_ ?_ ?_ | refine FrTo.none ?_ ?_ | exact VTo.sc (by first | rfl | (congr 1; omega) | (congr 1; simp; omega)) | exact VTos_dv _ _ | refine VTos.cons ?_ ?_ | exact VTos.nil | refine VTo.agg ?_ | refine VTo.tuple ?_ | refine VTo.func ?_ ?_ | exact VTo.fs | exact VTo.fp | exact VTo.nilptr | exact VTo.nilslice | exact VTo.nilfunc | exact VTo.ptr rfl | exact VTo.gl rfl | exact VTo.map rfl | exact VTo.yld rfl | exact VTo.fmMap rfl | exact VTo.fm | exact VTo.glNil' (by decide) rfl rfl | exact VTo.fsNil (by decide) | exact VTo.fsSl rfl rfl (by simp [flat_len encE_len]) | exact VTo.fpPtr rfl | exact VTo.fsGl rfl (by first | rfl | assumption | exact flat_len encI_len _ | exact flat_len encT_len _ | exact flat_len encS_len _ | exact flat_len encP_len _ | exact flat_len encL_len _ | exact flat_len encE_len _ | (simp [flat_len encP_len]; done) | simp [flat_len encI_len, flat_len encS_len]))) ?_)) trivial trivial rfl) (by repeat' (first | exact VTo.undef | exact FrTo.leaf | refine FrTo.node ?_ ?_ ?_ | refine FrTo.none ?_ ?_ | exact VTo.sc (by first | rfl | (congr 1; omega) | (congr 1; simp; omega)) | exact VTos_dv _ _ | refine VTos.cons ?_ ?_ | exact VTos.nil | refine VTo.agg ?_ | refine VTo.tuple ?_ | refine VTo.func ?_ ?_ | exact VTo.fs | exact VTo.fp | exact VTo.nilptr | exact VTo.nilslice | exact VTo.nilfunc | exact VTo.ptr rfl | exact VTo.gl rfl | exact VTo.map rfl | exact VTo.yld rfl | exact VTo.fmMap rfl | exact VTo.fm | exact VTo.glNil' (by decide) rfl rfl | exact VTo.fsNil (by decide) | exact VTo.fsSl rfl rfl (by simp [flat_len encE_len]) | exact VTo.fpPtr rfl | exact VTo.fsGl rfl (by first | rfl | assumption | exact flat_len encI_len _ | exact flat_len encT_len _ | exact flat_len encS_len _ | exact flat_len encP_len _ | exact flat_len encL_len _ | exact flat_len encE_len _ | (simp [flat_len encP_len]; done) | simp [flat_len encI_len, flat_len encS_len]))) (by first | rfl | (repeat' (first | exact MkTo.nil | refine MkTo.keep rfl ?_ | refine MkTo.drop (by decide) rfl ?_)))
        · rintro ⟨k, w⟩ ⟨h2, h4, h5⟩
          simp only at h2 h4 h5
          conv => whnf
          refine VIte.dec (fun h6 => ?_) (fun h6 => ?_)
          · have hp : f.ps[k]? = some f.ps[k] := List.getElem?_eq_getElem (by omega)
            generalize f.ps[k] = p at hp
            rw [widGo_at hp] at h2
            have hbd := widW_bd (p := p) h4
            have hw1 : 0 ≤ p.lo ∧ p.hi ≤ 3000 ∧ p.lo ≤ p.hi → widW p w = w * min 9 (p.hi - p.lo + 1) := fun hc => if_pos hc
            have hw2 : ¬ (0 ≤ p.lo ∧ p.hi ≤ 3000 ∧ p.lo ≤ p.hi) → widW p w = w := fun hc => if_neg hc
            conv => whnf
            repeat' (first | (refine VLd.intro rfl ?_; conv => whnf) | (refine VArith.i64 (by omega) ?_; conv => whnf) | (refine VNeed.intro (by first | rfl | assumption | (simp; omega) | (simp; done)) ?_; conv => whnf) | (refine VMem.store rfl rfl rfl rfl ?_; conv => whnf) | (refine VSame.intro (by (conv => lhs; whnf); (conv => rhs; whnf); try rfl) ?_; conv => whnf) | (refine VDraw.go [] (by kernel_rfl) (by kernel_rfl) ?_; conv => whnf) | (refine VIte.dec (fun _ => ?_) (fun _ => ?_) <;> conv => whnf) | (refine VIte.ndec (fun _ => ?_) (fun _ => ?_) <;> conv => whnf) | (refine VIte.beq (fun _ => ?_) (fun _ => ?_) <;> conv => whnf) | (refine VIte.bne (fun _ => ?_) (fun _ => ?_) <;> conv => whnf) | (refine VIte.intro (fun _ => ?_) (fun _ => ?_) <;> conv => whnf) | (refine VAny.ix encP_len k rfl rfl hp ?_; conv => whnf))
            · have e := hw1 (by omega)
              refine VArith.i64 (by show -9223372036854775808 ≤ w * min 9 (p.hi - p.lo + 1) ∧ w * min 9 (p.hi - p.lo + 1) ≤ 9223372036854775807; rw [← e]; omega) ?_
              conv => whnf
              rw [← e]
              repeat' (first | (refine VLd.intro rfl ?_; conv => whnf) | (refine VArith.i64 (by omega) ?_; conv => whnf) | (refine VNeed.intro (by first | rfl | assumption | (simp; omega) | (simp; done)) ?_; conv => whnf) | (refine VMem.store rfl rfl rfl rfl ?_; conv => whnf) | (refine VSame.intro (by (conv => lhs; whnf); (conv => rhs; whnf); try rfl) ?_; conv => whnf) | (refine VDraw.go [] (by kernel_rfl) (by kernel_rfl) ?_; conv => whnf) | (refine VIte.dec (fun _ => ?_) (fun _ => ?_) <;> conv => whnf) | (refine VIte.ndec (fun _ => ?_) (fun _ => ?_) <;> conv => whnf) | (refine VIte.beq (fun _ => ?_) (fun _ => ?_) <;> conv => whnf) | (refine VIte.bne (fun _ => ?_) (fun _ => ?_) <;> conv => whnf) | (refine VIte.intro (fun _ => ?_) (fun _ => ?_) <;> conv => whnf))
              · rw [if_pos (by omega)] at h2
                rw [h2]
                exact VOut.same rfl
              · rw [if_neg (by omega)] at h2
                refine LEnd.intro (k + 1, widW p w) ⟨h2, by simp only; omega, by simp only; omega⟩ (by simp only; omega) ?_
                conv => whnf
                refine Retell.turn ⟨[0], 2, [], []⟩ (TurnOk.mk' _ _ [] [] (OutOk.lift _) rfl (by decide) (by repeat' (first | exact BTos.nil | refine BTos.flat rfl rfl (by first | rfl | simp) ?_ | refine BTos.new rfl ?_ | refine BTos.dead rfl rfl ?_ | refine BTos.esE rfl rfl ?_ | refine BTos.row rfl rfl rfl (RowTo.snoc (RowTo.one rfl (by simp))) ?_ | refine BTos.cells rfl rfl rfl (by repeat' (first | exact VTo.undef | exact FrTo.leaf | refine FrTo.node ?_ ?_ ?_ | refine FrTo.none ?_ ?_ | exact VTo.sc (by first | rfl | (congr 1; omega) | (congr 1; simp; omega)) | exact VTos_dv _ _ | refine VTos.cons ?_ ?_ | exact VTos.nil | refine VTo.agg ?_ | refine VTo.tuple ?_ | refine VTo.func ?_ ?_ | exact VTo.fs | exact VTo.fp | exact VTo.nilptr | exact VTo.nilslice | exact VTo.nilfunc | exact VTo.ptr rfl | exact VTo.gl rfl | exact VTo.map rfl | exact VTo.yld rfl | exact VTo.fmMap rfl | exact VTo.fm | exact VTo.glNil' (by decide) rfl rfl | exact VTo.fsNil (by decide) | exact VTo.fsSl rfl rfl (by simp [flat_len encE_len]) | exact VTo.fpPtr rfl | exact VTo.fsGl rfl (by first | rfl | assumption | exact flat_len encI_len _ | exact flat_len encT_len _ | exact flat_len encS_len _ | exact flat_len encP_len _ | exact flat_len encL_len _ | exact flat_len encE_len _ | (simp [flat_len encP_len]; done) | simp [flat_len encI_len, flat_len encS_len]))) ?_)) trivial trivial rfl) (by repeat' (first | exact VTo.undef | exact FrTo.leaf | refine FrTo.node ?_ ?_ ?_ | refine FrTo.none ?_ ?_ | exact VTo.sc (by first | rfl | (congr 1; omega) | (congr 1; simp; omega)) | exact VTos_dv _ _ | refine VTos.cons ?_ ?_ | exact VTos.nil | refine VTo.agg ?_ | refine VTo.tuple ?_ | refine VTo.func ?_ ?_ | exact VTo.fs | exact VTo.fp | exact VTo.nilptr | exact VTo.nilslice | exact VTo.nilfunc | exact VTo.ptr rfl | exact VTo.gl rfl | exact VTo.map rfl | exact VTo.yld rfl | exact VTo.fmMap rfl | exact VTo.fm | exact VTo.glNil' (by decide) rfl rfl | exact VTo.fsNil (by decide) | exact VTo.fsSl rfl rfl (by simp [flat_len encE_len]) | exact VTo.fpPtr rfl | exact VTo.fsGl rfl (by first | rfl | assumption | exact flat_len encI_len _ | exact flat_len encT_len _ | exact flat_len encS_len _ | exact flat_len encP_len _ | exact flat_len encL_len _ | exact flat_len encE_len _ | (simp [flat_len encP_len]; done) | simp [flat_len encI_len, flat_len encS_len]))) (by first | rfl | (repeat' (first | exact MkTo.nil | refine MkTo.keep rfl ?_ | refine MkTo.drop (by decide) rfl ?_)))
            · have e := hw2 (by omega)
              rw [if_pos (by omega)] at h2
              rw [h2]
              exact VOut.same rfl
            · have e := hw2 (by omega)
              rw [if_neg (by omega)] at h2
              refine LEnd.intro (k + 1, widW p w) ⟨h2, by simp only; omega, by simp only; omega⟩ (by simp only; omega) ?_
              conv => whnf
              rw [e]
              refine Retell.turn ⟨[0], 2, [], []⟩ (TurnOk.mk' _ _ [] [] (OutOk.lift _) rfl (by decide) (by repeat' (first | exact BTos.nil | refine BTos.flat rfl rfl (by first | rfl | simp) ?_ | refine BTos.new rfl ?_ | refine BTos.dead rfl rfl ?_ | refine BTos.esE rfl rfl ?_ | refine BTos.row rfl rfl rfl (RowTo.snoc (RowTo.one rfl (by simp))) ?_ | refine BTos.cells rfl rfl rfl (by repeat' (first | exact VTo.undef | exact FrTo.leaf | refine FrTo.node ?_ ?_ ?_ | refine FrTo.none ?_ ?_ | exact VTo.sc (by first | rfl | (congr 1; omega) | (congr 1; simp; omega)) | exact VTos_dv _ _ | refine VTos.cons ?_ ?_ | exact VTos.nil | refine VTo.agg ?_ | refine VTo.tuple ?_ | refine VTo.func ?_ ?_ | exact VTo.fs | exact VTo.fp | exact VTo.nilptr | exact VTo.nilslice | exact VTo.nilfunc | exact VTo.ptr rfl | exact VTo.gl rfl | exact VTo.map rfl | exact VTo.yld rfl | exact VTo.fmMap rfl | exact VTo.fm | exact VTo.glNil' (by decide) rfl rfl | exact VTo.fsNil (by decide) | exact VTo.fsSl rfl rfl (by simp [flat_len encE_len]) | exact VTo.fpPtr rfl | exact VTo.fsGl rfl (by first | rfl | assumption | exact flat_len encI_len _ | exact flat_len encT_len _ | exact flat_len encS_len _ | exact flat_len encP_len _ | exact flat_len encL_len _ | exact flat_len encE_len _ | (simp [flat_len encP_len]; done) | simp [flat_len encI_len, flat_len encS_len]))) ?_)) trivial trivial rfl) (by repeat' (first | exact VTo.undef | exact FrTo.leaf | refine FrTo.node ?_ ?_ ?_ | refine FrTo.none ?_ ?_ | exact VTo.sc (by first | rfl | (congr 1; omega) | (congr 1; simp; omega)) | exact VTos_dv _ _ | refine VTos.cons ?_ ?_ | exact VTos.nil | refine VTo.agg ?_ | refine VTo.tuple ?_ | refine VTo.func ?_ ?_ | exact VTo.fs | exact VTo.fp | exact VTo.nilptr | exact VTo.nilslice | exact VTo.nilfunc | exact VTo.ptr rfl | exact VTo.gl rfl | exact VTo.map rfl | exact VTo.yld rfl | exact VTo.fmMap rfl | exact VTo.fm | exact VTo.glNil' (by decide) rfl rfl | exact VTo.fsNil (by decide) | exact VTo.fsSl rfl rfl (by simp [flat_len encE_len]) | exact VTo.fpPtr rfl | exact VTo.fsGl rfl (by first | rfl | assumption | exact flat_len encI_len _ | exact flat_len encT_len _ | exact flat_len encS_len _ | exact flat_len encP_len _ | exact flat_len encL_len _ | exact flat_len encE_len _ | (simp [flat_len encP_len]; done) | simp [flat_len encI_len, flat_len encS_len]))) (by first | rfl | (repeat' (first | exact MkTo.nil | refine MkTo.keep rfl ?_ | refine MkTo.drop (by decide) rfl ?_)))
            · have e := hw2 (by omega)
              rw [if_pos (by omega)] at h2
              rw [h2]
              exact VOut.same rfl
            · have e := hw2 (by omega)
              rw [if_neg (by omega)] at h2
              refine LEnd.intro (k + 1, widW p w) ⟨h2, by simp only; omega, by simp only; omega⟩ (by simp only; omega) ?_
              conv => whnf
              rw [e]
              refine Retell.turn ⟨[0], 2, [], []⟩ (TurnOk.mk' _ _ [] [] (OutOk.lift _) rfl (by decide) (by repeat' (first | exact BTos.nil | refine BTos.flat rfl rfl (by first | rfl | simp) ?_ | refine BTos.new rfl ?_ | refine BTos.dead rfl rfl ?_ | refine BTos.esE rfl rfl ?_ | refine BTos.row rfl rfl rfl (RowTo.snoc (RowTo.one rfl (by simp))) ?_ | refine BTos.cells rfl rfl rfl (by repeat' (first | exact VTo.undef | exact FrTo.leaf | refine FrTo.node ?_ ?_ ?_ | refine FrTo.none ?_ ?_ | exact VTo.sc (by first | rfl | (congr 1; omega) | (congr 1; simp; omega)) | exact VTos_dv _ _ | refine VTos.cons ?_ ?_ | exact VTos.nil | refine VTo.agg ?_ | refine VTo.tuple ?_ | refine VTo.func ?_ ?_ | exact VTo.fs | exact VTo.fp | exact VTo.nilptr | exact VTo.nilslice | exact VTo.nilfunc | exact VTo.ptr rfl | exact VTo.gl rfl | exact VTo.map rfl | exact VTo.yld rfl | exact VTo.fmMap rfl | exact VTo.fm | exact VTo.glNil' (by decide) rfl rfl | exact VTo.fsNil (by decide) | exact VTo.fsSl rfl rfl (by simp [flat_len encE_len]) | exact VTo.fpPtr rfl | exact VTo.fsGl rfl (by first | rfl | assumption | exact flat_len encI_len _ | exact flat_len encT_len _ | exact flat_len encS_len _ | exact flat_len encP_len _ | exact flat_len encL_len _ | exact flat_len encE_len _ | (simp [flat_len encP_len]; done) | simp [flat_len encI_len, flat_len encS_len]))) ?_)) trivial trivial rfl) (by repeat' (first | exact VTo.undef | exact FrTo.leaf | refine FrTo.node ?_ ?_ ?_ | refine FrTo.none ?_ ?_ | exact VTo.sc (by first | rfl | (congr 1; omega) | (congr 1; simp; omega)) | exact VTos_dv _ _ | refine VTos.cons ?_ ?_ | exact VTos.nil | refine VTo.agg ?_ | refine VTo.tuple ?_ | refine VTo.func ?_ ?_ | exact VTo.fs | exact VTo.fp | exact VTo.nilptr | exact VTo.nilslice | exact VTo.nilfunc | exact VTo.ptr rfl | exact VTo.gl rfl | exact VTo.map rfl | exact VTo.yld rfl | exact VTo.fmMap rfl | exact VTo.fm | exact VTo.glNil' (by decide) rfl rfl | exact VTo.fsNil (by decide) | exact VTo.fsSl rfl rfl (by simp [flat_len encE_len]) | exact VTo.fpPtr rfl | exact VTo.fsGl rfl (by first | rfl | assumption | exact flat_len encI_len _ | exact flat_len encT_len _ | exact flat_len encS_len _ | exact flat_len encP_len _ | exact flat_len encL_len _ | exact flat_len encE_len _ | (simp [flat_len encP_len]; done) | simp [flat_len encI_len, flat_len encS_len]))) (by first | rfl | (repeat' (first | exact MkTo.nil | refine MkTo.keep rfl ?_ | refine MkTo.drop (by decide) rfl ?_)))
            · have e := hw2 (by omega)
              rw [if_pos (by omega)] at h2
              rw [h2]
              exact VOut.same rfl
            · have e := hw2 (by omega)
              rw [if_neg (by omega)] at h2
              refine LEnd.intro (k + 1, widW p w) ⟨h2, by simp only; omega, by simp only; omega⟩ (by simp only; omega) ?_
              conv => whnf
              rw [e]
              refine Retell.turn ⟨[0], 2, [], []⟩ (TurnOk.mk' _ _ [] [] (OutOk.lift _) rfl (by decide) (by repeat' (first | exact BTos.nil | refine BTos.flat rfl rfl (by first | rfl | simp) ?_ | refine BTos.new rfl ?_ | refine BTos.dead rfl rfl ?_ | refine BTos.esE rfl rfl ?_ | refine BTos.row rfl rfl rfl (RowTo.snoc (RowTo.one rfl (by simp))) ?_ | refine BTos.cells rfl rfl rfl (by repeat' (first | exact VTo.undef | exact FrTo.leaf | refine FrTo.node ?_ ?_ ?_ | refine FrTo.none ?_ ?_ | exact VTo.sc (by first | rfl | (congr 1; omega) | (congr 1; simp; omega)) | exact VTos_dv _ _ | refine VTos.cons ?_ ?_ | exact VTos.nil | refine VTo.agg ?_ | refine VTo.tuple ?_ | refine VTo.func ?_ ?_ | exact VTo.fs | exact VTo.fp | exact VTo.nilptr | exact VTo.nilslice | exact VTo.nilfunc | exact VTo.ptr rfl | exact VTo.gl rfl | exact VTo.map rfl | exact VTo.yld rfl | exact VTo.fmMap rfl | exact VTo.fm | exact VTo.glNil' (by decide) rfl rfl | exact VTo.fsNil (by decide) | exact VTo.fsSl rfl rfl (by simp [flat_len encE_len]) | exact VTo.fpPtr rfl | exact VTo.fsGl rfl (by first | rfl | assumption | exact flat_len encI_len _ | exact flat_len encT_len _ | exact flat_len encS_len _ | exact flat_len encP_len _ | exact flat_len encL_len _ | exact flat_len encE_len _ | (simp [flat_len encP_len]; done) | simp [flat_len encI_len, flat_len encS_len]))) ?_)) trivial trivial rfl) (by repeat' (first | exact VTo.undef | exact FrTo.leaf | refine FrTo.node ?_ ?_ ?_ | refine FrTo.none ?_ ?_ | exact VTo.sc (by first | rfl | (congr 1; omega) | (congr 1; simp; omega)) | exact VTos_dv _ _ | refine VTos.cons ?_ ?_ | exact VTos.nil | refine VTo.agg ?_ | refine VTo.tuple ?_ | refine VTo.func ?_ ?_ | exact VTo.fs | exact VTo.fp | exact VTo.nilptr | exact VTo.nilslice | exact VTo.nilfunc | exact VTo.ptr rfl | exact VTo.gl rfl | exact VTo.map rfl | exact VTo.yld rfl | exact VTo.fmMap rfl | exact VTo.fm | exact VTo.glNil' (by decide) rfl rfl | exact VTo.fsNil (by decide) | exact VTo.fsSl rfl rfl (by simp [flat_len encE_len]) | exact VTo.fpPtr rfl | exact VTo.fsGl rfl (by first | rfl | assumption | exact flat_len encI_len _ | exact flat_len encT_len _ | exact flat_len encS_len _ | exact flat_len encP_len _ | exact flat_len encL_len _ | exact flat_len encE_len _ | (simp [flat_len encP_len]; done) | simp [flat_len encI_len, flat_len encS_len]))) (by first | rfl | (repeat' (first | exact MkTo.nil | refine MkTo.keep rfl ?_ | refine MkTo.drop (by decide) rfl ?_)))
          · rw [List.drop_of_length_le (by omega), widGo] at h2
            rw [h2]
            conv => whnf
            repeat (first | (refine VLd.intro rfl ?_; conv => whnf) | (refine VArith.i64 (by omega) ?_; conv => whnf) | (refine VNeed.intro (by first | rfl | assumption | (simp; omega) | (simp; done)) ?_; conv => whnf) | (refine VMem.store rfl rfl rfl rfl ?_; conv => whnf) | (refine VSame.intro (by (conv => lhs; whnf); (conv => rhs; whnf); try rfl) ?_; conv => whnf) | (refine VDraw.go [] (by kernel_rfl) (by kernel_rfl) ?_; conv => whnf))
            exact VOut.same rfl
end Go.Proofs.Ytolnajnlcdacmaa

open Go.Vm
namespace Go.Proofs.Ytolnajnlcdacmaa
set_option maxRecDepth 20000
set_option maxHeartbeats 1000000

def minL : List Int → Int
  | [] => 0
  | a :: r => r.foldl min a
def maxL : List Int → Int
  | [] => 0
  | a :: r => r.foldl max a
theorem fold_snoc (g : Int → Int → Int) {l : List Int} {k : Nat} {x : Int} (a : Int) (hx : l[k]? = some x) : (l.take (k + 1)).foldl g a = g ((l.take k).foldl g a) x := by
  rw [List.take_add_one, hx]; simp
theorem vc_Min (a : Int) (r : List Int) (h : Hp) (hl : r.length ≤ 200000000) : VC Try.prog 86 [ints (a :: r)] h (I (minL (a :: r))) h := by
  have h0 : (a :: r)[0]? = some a := rfl
  have hle : (a :: r).length = r.length + 1 := rfl
  rw [minL]
  refine VC.body Try.func86 rfl Try.ntmps86 Try.call86 (h.grows_refl) rfl ?_; conv => whnf
  repeat' (first | ((first | refine zs1 ?_ | refine zs2 ?_ | refine zs3 ?_ | refine zs4 ?_ | refine zs5 ?_ | refine zs6 [] ?_); conv => whnf) | ((first | apply zi1 | apply zi2 | apply zi3 | apply zi4 | apply zi5) <;> intro _ <;> conv => whnf) | (refine VAny.ix encI_len 0 (by omega) rfl h0 ?_; conv => whnf))
  refine VCode.lp (fun k : Nat => [(0, ints (a :: r)), (3, I ((r.take k).foldl min a)), (4, I (k + 1 : Nat))]) (fun _ => []) (fun k => k ≤ r.length) (fun k => r.length - k) 0 (Nat.zero_le _) ?_ ?_
  · conv => whnf
    refine Retell.turn ⟨[], 0, [], []⟩ (TurnOk.mk' _ _ [] [] (OutOk.lift _) rfl (by decide) zb trivial trivial rfl) zv zm
  · rintro k hk
    conv => whnf
    refine VIte.dec (fun h3 => ?_) (fun h3 => ?_)
    · have hx : r[k]? = some r[k] := List.getElem?_eq_getElem (by omega)
      have hf := fold_snoc min a hx
      generalize r[k] = x at hx hf
      have hx' : (a :: r)[k + 1]? = some x := hx
      conv => whnf
      repeat' (first | ((first | refine zs1 ?_ | refine zs2 ?_ | refine zs3 ?_ | refine zs4 ?_ | refine zs5 ?_ | refine zs6 [] ?_); conv => whnf) | ((first | apply zi1 | apply zi2 | apply zi3 | apply zi4 | apply zi5) <;> intro _ <;> conv => whnf) | (refine VAny.ix encI_len (k + 1) (by omega) rfl hx' ?_; conv => whnf))
      refine LEnd.intro (k + 1) (by omega) (by omega) ?_
      conv => whnf
      rw [hf]
      refine Retell.turn ⟨[], 0, [], []⟩ (TurnOk.mk' _ _ [] [] (OutOk.lift _) rfl (by decide) zb trivial trivial rfl) zv zm
    · conv => whnf
      repeat (first | ((first | refine zs1 ?_ | refine zs2 ?_ | refine zs3 ?_ | refine zs4 ?_ | refine zs5 ?_ | refine zs6 [] ?_); conv => whnf))
      rw [List.take_of_length_le (by omega)]
      exact VOut.same rfl
theorem vc_Max (a : Int) (r : List Int) (h : Hp) (hl : r.length ≤ 200000000) : VC Try.prog 65 [ints (a :: r)] h (I (maxL (a :: r))) h := by
  have h0 : (a :: r)[0]? = some a := rfl
  have hle : (a :: r).length = r.length + 1 := rfl
  rw [maxL]
  refine VC.body Try.func65 rfl Try.ntmps65 Try.call65 (h.grows_refl) rfl ?_; conv => whnf
  repeat' (first | ((first | refine zs1 ?_ | refine zs2 ?_ | refine zs3 ?_ | refine zs4 ?_ | refine zs5 ?_ | refine zs6 [] ?_); conv => whnf) | ((first | apply zi1 | apply zi2 | apply zi3 | apply zi4 | apply zi5) <;> intro _ <;> conv => whnf) | (refine VAny.ix encI_len 0 (by omega) rfl h0 ?_; conv => whnf))
  refine VCode.lp (fun k : Nat => [(0, ints (a :: r)), (3, I ((r.take k).foldl max a)), (4, I (k + 1 : Nat))]) (fun _ => []) (fun k => k ≤ r.length) (fun k => r.length - k) 0 (Nat.zero_le _) ?_ ?_
  · conv => whnf
    refine Retell.turn ⟨[], 0, [], []⟩ (TurnOk.mk' _ _ [] [] (OutOk.lift _) rfl (by decide) zb trivial trivial rfl) zv zm
  · rintro k hk
    conv => whnf
    refine VIte.dec (fun h3 => ?_) (fun h3 => ?_)
    · have hx : r[k]? = some r[k] := List.getElem?_eq_getElem (by omega)
      have hf := fold_snoc max a hx
      generalize r[k] = x at hx hf
      have hx' : (a :: r)[k + 1]? = some x := hx
      conv => whnf
      repeat' (first | ((first | refine zs1 ?_ | refine zs2 ?_ | refine zs3 ?_ | refine zs4 ?_ | refine zs5 ?_ | refine zs6 [] ?_); conv => whnf) | ((first | apply zi1 | apply zi2 | apply zi3 | apply zi4 | apply zi5) <;> intro _ <;> conv => whnf) | (refine VAny.ix encI_len (k + 1) (by omega) rfl hx' ?_; conv => whnf))
      refine LEnd.intro (k + 1) (by omega) (by omega) ?_
      conv => whnf
      rw [hf]
      refine Retell.turn ⟨[], 0, [], []⟩ (TurnOk.mk' _ _ [] [] (OutOk.lift _) rfl (by decide) zb trivial trivial rfl) zv zm
    · conv => whnf
      repeat (first | ((first | refine zs1 ?_ | refine zs2 ?_ | refine zs3 ?_ | refine zs4 ?_ | refine zs5 ?_ | refine zs6 [] ?_); conv => whnf))
      rw [List.take_of_length_le (by omega)]
      exact VOut.same rfl
theorem vc_least (l : List Int) (h : Hp) (hl : l.length ≤ 200000000) : VC Try.prog 63 [ints l] h (I (minL l)) h := by
  cases l with
  | nil =>
    refine VC.body Try.func63 rfl Try.ntmps63 Try.call63 (h.grows_refl) rfl ?_; conv => whnf
    repeat' (first | ((first | refine zs1 ?_ | refine zs2 ?_ | refine zs3 ?_ | refine zs4 ?_ | refine zs5 ?_ | refine zs6 [] ?_); conv => whnf) | ((first | apply zi1 | apply zi2 | apply zi3 | apply zi4 | apply zi5) <;> intro _ <;> conv => whnf))
    · exact VOut.same rfl
    all_goals (rename_i h1; exact absurd rfl h1)
  | cons a r =>
    have hle : (a :: r).length = r.length + 1 := rfl
    refine VC.body Try.func63 rfl Try.ntmps63 Try.call63 (h.grows_refl) rfl ?_; conv => whnf
    repeat' (first | ((first | refine zs1 ?_ | refine zs2 ?_ | refine zs3 ?_ | refine zs4 ?_ | refine zs5 ?_ | refine zs6 [] ?_); conv => whnf) | ((first | apply zi1 | apply zi2 | apply zi3 | apply zi4 | apply zi5) <;> intro _ <;> conv => whnf) | (refine VCall.intro (vc_Min a r _ (by omega)) ?_; conv => whnf))
    exact VOut.same rfl
theorem vc_most (a : Int) (r : List Int) (h : Hp) (hl : r.length ≤ 200000000) : VC Try.prog 64 [ints (a :: r)] h (I (maxL (a :: r))) h := by
  refine VC.body Try.func64 rfl Try.ntmps64 Try.call64 (h.grows_refl) rfl ?_; conv => whnf
  repeat' (first | ((first | refine zs1 ?_ | refine zs2 ?_ | refine zs3 ?_ | refine zs4 ?_ | refine zs5 ?_ | refine zs6 [] ?_); conv => whnf) | ((first | apply zi1 | apply zi2 | apply zi3 | apply zi4 | apply zi5) <;> intro _ <;> conv => whnf) | (refine VCall.intro (vc_Max a r _ (by omega)) ?_; conv => whnf))
  exact VOut.same rfl
structure End where
  i : Int
  year : Int
  first : Int
  side : Int
  since : Int
  deriving DecidableEq
def encE (e : End) : List D := [DI e.i, DI e.year, DI e.first, DI e.side, DI e.since]
theorem encE_len (e : End) : (encE e).length = 5 := rfl
def ends (l : List End) : V := .fs 5 l.length (l.flatMap encE)
def aggE (e : End) : V := .agg [I e.i, I e.year, I e.first, I e.side, I e.since]
def fidx (q : End → Bool) : List End → Int → Int
  | [], _ => -1
  | a :: r, i => bif q a then i else fidx q r (i + 1)
theorem fidx_at {q : End → Bool} {a : End} {l : List End} {k : Nat} (ha : l[k]? = some a) : fidx q (l.drop k) k = bif q a then (k : Int) else fidx q (l.drop (k + 1)) ((k + 1 : Nat) : Int) := by
  obtain ⟨h1, rfl⟩ := List.getElem?_eq_some_iff.1 ha
  rw [List.drop_eq_getElem_cons h1, fidx]; rfl
theorem vc_IndexFunc (l : List End) (q : End → Bool) (g : FuncId) (caps : List D) (hl : l.length ≤ 200000000) (hso : ∀ (e : End) (h : Hp), VC Try.prog g ([aggE e] ++ D.vs caps) h (B (q e)) h) (h : Hp) :
    VC Try.prog 58 [ends l, .func (.func g) [] (D.vs caps)] h (I (fidx q l 0)) h := by
  obtain ⟨E, hE⟩ : ∃ E, E = fidx q l 0 := ⟨_, rfl⟩
  rw [← hE]
  refine VC.body Try.func58 rfl Try.ntmps58 Try.call58 (h.grows_refl) rfl ?_; conv => whnf
  rw [rens_dvs]
  refine VCode.lp (fun k : Nat => [(0, ends l), (1, .func (.func g) [] (D.vs caps)), (7, I l.length), (8, I k)]) (fun _ => []) (fun k => k ≤ l.length ∧ E = fidx q (l.drop k) k) (fun k => l.length - k) 0 ⟨Nat.zero_le _, hE⟩ ?_ ?_
  · conv => whnf
    refine Retell.turn ⟨[], 0, [], []⟩ (TurnOk.mk' _ _ [] [] (OutOk.lift _) rfl (by decide) zb trivial trivial rfl) zv zm
  · rintro k ⟨h1, h2⟩
    conv => whnf
    refine VIte.dec (fun h3 => ?_) (fun h3 => ?_)
    · have ha : l[k]? = some l[k] := List.getElem?_eq_getElem (by omega)
      generalize l[k] = a at ha
      rw [fidx_at ha] at h2
      conv => whnf
      repeat' (first | ((first | refine zs1 ?_ | refine zs2 ?_ | refine zs3 ?_ | refine zs4 ?_ | refine zs5 ?_ | refine zs6 [] ?_); conv => whnf) | ((first | apply zi1 | apply zi2 | apply zi3 | apply zi4 | apply zi5) <;> intro _ <;> conv => whnf) | (refine VAny.ix encE_len k (by omega) rfl ha ?_; conv => whnf))
      refine VCall.intro (hso a _) ?_
      conv => whnf
      cases hq : q a
      · rw [hq] at h2
        conv => whnf
        repeat (first | ((first | refine zs1 ?_ | refine zs2 ?_ | refine zs3 ?_ | refine zs4 ?_ | refine zs5 ?_ | refine zs6 [] ?_); conv => whnf))
        refine LEnd.intro (k + 1) ⟨by omega, h2⟩ (by omega) ?_
        conv => whnf
        refine Retell.turn ⟨[], 0, [], []⟩ (TurnOk.mk' _ _ [] [] (OutOk.lift _) rfl (by decide) zb trivial trivial rfl) zv zm
      · rw [hq] at h2
        rw [h2]
        conv => whnf
        repeat (first | ((first | refine zs1 ?_ | refine zs2 ?_ | refine zs3 ?_ | refine zs4 ?_ | refine zs5 ?_ | refine zs6 [] ?_); conv => whnf))
        exact VOut.same rfl
    · rw [List.drop_of_length_le (by omega), fidx] at h2
      rw [h2]
      conv => whnf
      repeat (first | ((first | refine zs1 ?_ | refine zs2 ?_ | refine zs3 ?_ | refine zs4 ?_ | refine zs5 ?_ | refine zs6 [] ?_); conv => whnf))
      exact VOut.same rfl
theorem vc_Truth1 (s : Int) (e : End) (h : Hp) : VC Try.prog 59 [aggE e, .fp [DI s]] h (B (decide (e.side = s))) h := by
  refine VC.body Try.func59 rfl Try.ntmps59 Try.call59 (h.grows_refl) rfl ?_; conv => whnf
  repeat' (first | ((first | refine zs1 ?_ | refine zs2 ?_ | refine zs3 ?_ | refine zs4 ?_ | refine zs5 ?_ | refine zs6 [] ?_); conv => whnf) | ((first | apply zi1 | apply zi2 | apply zi3 | apply zi4 | apply zi5) <;> intro _ <;> conv => whnf))
  all_goals (refine VOut.dec ?_; first | (simp only [decide_eq_true_eq]; omega) | (simp; omega) | (simp; done))
end Go.Proofs.Ytolnajnlcdacmaa

open Go.Vm
namespace Go.Proofs.Ytolnajnlcdacmaa
set_option maxRecDepth 20000
set_option maxHeartbeats 1000000

def yrs (p : Pap) : List Int := (List.range (p.hi - p.lo + 1).toNat).map fun k : Nat => p.lo + (k : Int)
def ext1 (p : Pap) (ts : List (List Int)) : List (List Int) := ts.flatMap fun t => (yrs p).map fun y => t ++ [y]
def tru (ps : List Pap) : List (List Int) := ps.foldl (fun ts p => ext1 p ts) [[]]
theorem yrs_len (p : Pap) : (yrs p).length = (p.hi - p.lo + 1).toNat := by simp [yrs]
theorem tru_snoc {ps : List Pap} {k : Nat} {p : Pap} (hp : ps[k]? = some p) : tru (ps.take (k + 1)) = ext1 p (tru (ps.take k)) := by
  rw [tru, List.take_add_one, hp]; simp [tru]
theorem tru_len : ∀ (ps : List Pap) (ts : List (List Int)) (n : Nat), (∀ t ∈ ts, t.length = n) → ∀ t ∈ ps.foldl (fun ts p => ext1 p ts) ts, t.length = n + ps.length
  | [], ts, n, h, t, ht => h t ht
  | p :: ps, ts, n, h, t, ht => by
    rw [List.foldl_cons] at ht
    have := tru_len ps (ext1 p ts) (n + 1) (fun t ht => by
      simp only [ext1, List.mem_flatMap, List.mem_map] at ht
      obtain ⟨t0, h1, y, _, rfl⟩ := ht
      simp [h t0 h1]) t ht
    simp only [List.length_cons]; omega
theorem ext1_part {p : Pap} {ts : List (List Int)} {j m : Nat} {t : List Int} (ht : ts[j]? = some t) (hm : m ≤ (yrs p).length) :
    (ext1 p (ts.take j) ++ ((yrs p).take m).map (fun y => t ++ [y])).length ≤ (ext1 p ts).length := by
  obtain ⟨h1, rfl⟩ := List.getElem?_eq_some_iff.1 ht
  have h2 : ext1 p ts = ext1 p (ts.take j) ++ (((yrs p).map fun y => ts[j] ++ [y]) ++ ext1 p (ts.drop (j + 1))) := by
    unfold ext1
    have : ts = ts.take j ++ (ts[j] :: ts.drop (j + 1)) := by rw [← List.drop_eq_getElem_cons h1, List.take_append_drop]
    exact (congrArg (fun l => l.flatMap fun t => (yrs p).map fun y => t ++ [y]) this).trans (by rw [List.flatMap_append, List.flatMap_cons])
  rw [h2]
  simp; omega
theorem vc_truths (f : Fil) (h : Hp) (hl : f.ps.length ≤ 1000) (hp : ∀ p ∈ f.ps, 0 ≤ p.lo ∧ p.lo ≤ p.hi ∧ p.hi ≤ 3000) (hb : ∀ k, (tru (f.ps.take k)).length ≤ 1000000) : VC Try.prog 55 [vF f] h (intss (tru f.ps)) h := by
  refine VC.body Try.func55 rfl Try.ntmps55 Try.call55 (h.grows_refl) rfl ?_; conv => whnf
  repeat (first | ((first | refine zs1 ?_ | refine zs2 ?_ | refine zs3 ?_ | refine zs4 ?_ | refine zs5 ?_ | refine zs6 [] ?_); conv => whnf))
  refine VCode.lp (fun k : Nat => [(1, .ptr (.loc 0) 0), (3, intss (tru (f.ps.take k))), (4, I k)]) (fun _ => [.flat true (encF f)]) (fun k => k ≤ f.ps.length) (fun k => f.ps.length - k) 0 (Nat.zero_le _) ?_ ?_
  · conv => whnf
    refine Retell.turn ⟨[0], 3, [(1, []), (2, encL [])], []⟩ (TurnOk.mk' _ _ [(1, []), (2, encL [])] [] (OutOk.lift _) rfl (by decide) zb zf trivial rfl) zv zm
  · intro k hk
    conv => whnf
    repeat (first | ((first | refine zs1 ?_ | refine zs2 ?_ | refine zs3 ?_ | refine zs4 ?_ | refine zs5 ?_ | refine zs6 [] ?_); conv => whnf))
    refine VIte.dec (fun h3 => ?_) (fun h3 => ?_)
    · have hq : f.ps[k]? = some f.ps[k] := List.getElem?_eq_getElem (by omega)
      have hpb := hp f.ps[k] (List.getElem_mem (by omega))
      have hts := tru_snoc hq
      have hbk := hb k
      have hbk1 := hb (k + 1)
      have htl := tru_len (f.ps.take k) [[]] 0 (by simp)
      have htk : (f.ps.take k).length = k := by simp; omega
      rw [htk] at htl
      change ∀ t ∈ tru (f.ps.take k), _ at htl
      generalize f.ps[k] = p at hq hpb hts
      rw [hts] at hbk1
      obtain ⟨T, hT⟩ : ∃ T, T = tru (f.ps.take k) := ⟨_, rfl⟩
      rw [← hT] at hts hbk hbk1 htl ⊢
      conv => whnf
      repeat (first | ((first | refine zs1 ?_ | refine zs2 ?_ | refine zs3 ?_ | refine zs4 ?_ | refine zs5 ?_ | refine zs6 [] ?_); conv => whnf))
      refine VCode.lp (fun j : Nat => [(1, .ptr (.loc 0) 0), (3, intss T), (4, I k), (5, .gl (.loc 1) 1 (ext1 p (T.take j)).length), (6, I j)]) (fun j => [.flat true (encF f), .flat true ((ext1 p (T.take j)).flatMap encL)]) (fun j => j ≤ T.length) (fun j => T.length - j) 0 (Nat.zero_le _) ?_ ?_
      · conv => whnf
        refine Retell.turn ⟨[0,1], 1, [], []⟩ (TurnOk.mk' _ _ [] [] (OutOk.lift _) rfl (by decide) zb trivial trivial rfl) zv zm
      · intro j hj
        conv => whnf
        refine VIte.dec (fun g3 => ?_) (fun g3 => ?_)
        · have hx : T[j]? = some T[j] := List.getElem?_eq_getElem (by omega)
          have htx := htl T[j] (List.getElem_mem (by omega))
          have hpart := fun m => ext1_part (p := p) (m := m) hx
          have hnx : ext1 p (T.take (j + 1)) = ext1 p (T.take j) ++ (yrs p).map (fun y => T[j] ++ [y]) := by
            have e9 : T.take (j + 1) = T.take j ++ [T[j]] := by rw [List.take_add_one, hx]; rfl
            unfold ext1; rw [e9, List.flatMap_append]; simp
          generalize T[j] = x at hx htx hpart hnx
          obtain ⟨A, hA⟩ : ∃ A, A = ext1 p (T.take j) := ⟨_, rfl⟩
          rw [← hA] at hpart hnx ⊢
          have hyl := yrs_len p
          conv => whnf
          repeat' (first | ((first | refine zs1 ?_ | refine zs2 ?_ | refine zs3 ?_ | refine zs4 ?_ | refine zs5 ?_ | refine zs6 [] ?_); conv => whnf) | ((first | apply zi1 | apply zi2 | apply zi3 | apply zi4 | apply zi5) <;> intro _ <;> conv => whnf) | (refine VAny.ix encP_len k rfl rfl hq ?_; conv => whnf))
          refine VCode.lp (fun m : Nat => [(1, .ptr (.loc 0) 0), (3, intss T), (4, I k), (5, .gl (.loc 1) 1 (A ++ ((yrs p).take m).map (fun y => x ++ [y])).length), (6, I j), (7, I (p.lo + m))]) (fun m => [.flat true (encF f), .flat true ((A ++ ((yrs p).take m).map (fun y => x ++ [y])).flatMap encL)]) (fun m => m ≤ (yrs p).length) (fun m => (yrs p).length - m) 0 (Nat.zero_le _) ?_ ?_
          · conv => whnf
            rw [show A ++ ((yrs p).take 0).map (fun y => x ++ [y]) = A from by simp]
            refine Retell.turn ⟨[0,1], 2, [], []⟩ (TurnOk.mk' _ _ [] [] (OutOk.lift _) rfl (by decide) zb trivial trivial rfl) zv zm
          · intro m hm
            have hpm := hpart m hm
            conv => whnf
            repeat' (first | ((first | refine zs1 ?_ | refine zs2 ?_ | refine zs3 ?_ | refine zs4 ?_ | refine zs5 ?_ | refine zs6 [] ?_); conv => whnf) | ((first | apply zi1 | apply zi2 | apply zi3 | apply zi4 | apply zi5) <;> intro _ <;> conv => whnf) | (refine VAny.ix encP_len k rfl rfl hq ?_; conv => whnf))
            · have hym : (yrs p)[m]? = some (p.lo + m) := by
                unfold yrs
                rw [List.getElem?_map, List.getElem?_range (by omega)]; rfl
              obtain ⟨L, hL⟩ : ∃ L, L = A ++ ((yrs p).take m).map (fun y => x ++ [y]) := ⟨_, rfl⟩
              have hL1 : A ++ ((yrs p).take (m + 1)).map (fun y => x ++ [y]) = L ++ [x ++ [p.lo + m]] := by
                rw [hL, List.take_add_one, hym]; simp
              rw [← hL] at hpm ⊢
              repeat' (first | ((first | refine zs1 ?_ | refine zs2 ?_ | refine zs3 ?_ | refine zs4 ?_ | refine zs5 ?_ | refine zs6 [] ?_); conv => whnf) | ((first | apply zi1 | apply zi2 | apply zi3 | apply zi4 | apply zi5) <;> intro _ <;> conv => whnf) | (refine VAny.ix encL_len j rfl rfl hx ?_; conv => whnf))
              refine VMem.appN (l := []) (l2 := x) encI_len rfl rfl rfl rfl rfl (by simp; omega) ?_
              conv => whnf
              repeat (first | ((first | refine zs1 ?_ | refine zs2 ?_ | refine zs3 ?_ | refine zs4 ?_ | refine zs5 ?_ | refine zs6 [] ?_); conv => whnf))
              refine VMem.app1 (l := [] ++ x) (p.lo + m) encI_len rfl rfl rfl (by simp) rfl (by simp; omega) ?_
              conv => whnf
              repeat (first | ((first | refine zs1 ?_ | refine zs2 ?_ | refine zs3 ?_ | refine zs4 ?_ | refine zs5 ?_ | refine zs6 [] ?_); conv => whnf))
              refine VMem.app1V (l := L) [.gl (.loc 5) 1 (0 + x.length + 1)] encL_len rfl rfl rfl rfl rfl rfl (by omega) ?_
              conv => whnf
              repeat (first | ((first | refine zs1 ?_ | refine zs2 ?_ | refine zs3 ?_ | refine zs4 ?_ | refine zs5 ?_ | refine zs6 [] ?_); conv => whnf))
              refine LEnd.intro (m + 1) (by omega) (by omega) ?_
              conv => whnf
              rw [hL1, List.length_append]
              refine Retell.turn ⟨[0,7], 8, [(5, (x ++ [p.lo + m]).flatMap encI)], []⟩ (TurnOk.mk' _ _ [(5, (x ++ [p.lo + m]).flatMap encI)] [] (OutOk.lift _) rfl (by decide) zb zf trivial rfl) zv zm
            · have hme : m = (yrs p).length := by omega
              subst hme
              rw [List.take_of_length_le (Nat.le_refl _), ← hnx]
              refine LEnd.intro (j + 1) (by omega) (by omega) ?_
              conv => whnf
              refine Retell.turn ⟨[0,1], 2, [], []⟩ (TurnOk.mk' _ _ [] [] (OutOk.lift _) rfl (by decide) zb trivial trivial rfl) zv zm
        · have hje : j = T.length := by omega
          subst hje
          rw [List.take_of_length_le (Nat.le_refl _), ← hts]
          conv => whnf
          repeat (first | ((first | refine zs1 ?_ | refine zs2 ?_ | refine zs3 ?_ | refine zs4 ?_ | refine zs5 ?_ | refine zs6 [] ?_); conv => whnf))
          refine LEnd.intro (k + 1) (by omega) (by omega) ?_
          conv => whnf
          refine Retell.turn ⟨[0], 2, [(1, (tru (f.ps.take (k + 1))).flatMap encL)], []⟩ (TurnOk.mk' _ _ [(1, (tru (f.ps.take (k + 1))).flatMap encL)] [] (OutOk.lift _) rfl (by decide) zb zf trivial rfl) zv zm
    · have hke : k = f.ps.length := by omega
      subst hke
      rw [List.take_of_length_le (Nat.le_refl _)]
      conv => whnf
      repeat (first | ((first | refine zs1 ?_ | refine zs2 ?_ | refine zs3 ?_ | refine zs4 ?_ | refine zs5 ?_ | refine zs6 [] ?_); conv => whnf))
      exact VOut.same rfl
end Go.Proofs.Ytolnajnlcdacmaa

open Go.Vm
namespace Go.Proofs.Ytolnajnlcdacmaa
set_option maxRecDepth 20000
set_option maxHeartbeats 1000000

theorem holdsS_of : ∀ {ps : List Pap} {t : List Int}, (∀ (i : Nat) p y, ps[i]? = some p → t[i]? = some y → p.lo ≤ y ∧ y ≤ p.hi) → holdsS ps t = true
  | [], t, _ => by cases t <;> simp [holdsS]
  | p :: ps, [], _ => by simp [holdsS]
  | p :: ps, y :: t, h => by
    rw [holdsS, decide_eq_true (h 0 p y rfl rfl), Bool.true_and]
    exact holdsS_of fun i q z h1 h2 => h (i + 1) q z (by simpa using h1) (by simpa using h2)
theorem mem_yrs {p : Pap} {y : Int} : y ∈ yrs p ↔ p.lo ≤ y ∧ y ≤ p.hi := by
  unfold yrs
  rw [List.mem_map]
  constructor
  · rintro ⟨k, h1, rfl⟩
    rw [List.mem_range] at h1; omega
  · intro h
    exact ⟨(y - p.lo).toNat, by rw [List.mem_range]; omega, by omega⟩
theorem tru_take {ps : List Pap} : ∀ {k : Nat}, k ≤ ps.length → ∀ t, t ∈ tru (ps.take k) ↔ t.length = k ∧ ∀ (i : Nat) p y, ps[i]? = some p → t[i]? = some y → p.lo ≤ y ∧ y ≤ p.hi
  | 0, _, t => by
    have : tru (ps.take 0) = [[]] := rfl
    rw [this, List.mem_singleton]
    constructor
    · rintro rfl; exact ⟨rfl, fun i p y _ h => by simp at h⟩
    · rintro ⟨h, _⟩; exact List.length_eq_zero_iff.1 h
  | k + 1, hk, t => by
    have hp : ps[k]? = some ps[k] := List.getElem?_eq_getElem (by omega)
    rw [tru_snoc hp]
    generalize ps[k] = q at hp
    simp only [ext1, List.mem_flatMap, List.mem_map]
    constructor
    · rintro ⟨t0, h1, y, h2, rfl⟩
      obtain ⟨h3, h4⟩ := (tru_take (by omega) t0).1 h1
      refine ⟨by simp [h3], fun i p z hp2 hz => ?_⟩
      rcases Nat.lt_trichotomy i k with h5 | h5 | h5
      · rw [List.getElem?_append_left (by omega)] at hz; exact h4 i p z hp2 hz
      · subst h5
        rw [hp] at hp2; cases hp2
        rw [List.getElem?_append_right (by omega), h3] at hz
        simp at hz; subst hz
        exact mem_yrs.1 h2
      · rw [List.getElem?_eq_none (by simp; omega)] at hz; cases hz
    · rintro ⟨h1, h2⟩
      have hy : t[k]? = some t[k] := List.getElem?_eq_getElem (by omega)
      refine ⟨t.take k, (tru_take (by omega) _).2 ⟨by simp; omega, fun i p z hp2 hz => ?_⟩, t[k], mem_yrs.2 (h2 k q _ hp hy), ?_⟩
      · rw [List.getElem?_take] at hz
        split at hz
        · exact h2 i p z hp2 hz
        · cases hz
      · have e9 : t.take (k + 1) = t.take k ++ [t[k]] := by rw [List.take_add_one, hy]; rfl
        rw [← e9, List.take_of_length_le (by omega)]
theorem mem_tru {ps : List Pap} {t : List Int} : t ∈ tru ps ↔ t.length = ps.length ∧ holdsS ps t = true := by
  have := tru_take (ps := ps) (Nat.le_refl _) t
  rw [List.take_of_length_le (Nat.le_refl _)] at this
  rw [this]
  constructor
  · rintro ⟨h1, h2⟩; exact ⟨h1, holdsS_of h2⟩
  · rintro ⟨h1, h2⟩; exact ⟨h1, fun i p y hp hy => holdsS_get h2 hp hy⟩
theorem tru_okt {f : Fil} (h : chk f = 0) {t : List Int} (ht : t ∈ tru f.ps) : Okt f t := by
  obtain ⟨a, b, c, d⟩ := chk_zero h
  obtain ⟨h1, h2⟩ := mem_tru.1 ht
  exact ⟨a, b, c, h1, d, h2⟩
theorem chk_paps {f : Fil} (h : chk f = 0) : ∀ p ∈ f.ps, 0 ≤ p.lo ∧ p.lo ≤ p.hi ∧ p.hi ≤ 3000 := by
  obtain ⟨_, _, _, d⟩ := chk_zero h
  intro p hp
  have := chkGo_zero d p hp
  unfold badPap at this
  omega
def isOwn (f : Fil) (x : Int) : Bool := (tru f.ps).any fun t => decide ((own f t).1 = x)
def osL (f : Fil) : List Int := selS (fun k => isOwn f k) 3
def Few (f : Fil) : Prop := ∀ k, (tru (f.ps.take k)).length ≤ 1000000
theorem vc_rOwners_no (f : Fil) (h : Hp) (hn : f.ps.length ≤ 4000000) (h0 : chk f ≠ 0) : VC Try.prog 17 [vF f] h (.tuple [.nilslice, I (chk f)]) h := by
  refine VC.body Try.func17 rfl Try.ntmps17 Try.call17 (h.grows_refl) rfl ?_; conv => whnf
  repeat' (first | ((first | refine zs1 ?_ | refine zs2 ?_ | refine zs3 ?_ | refine zs4 ?_ | refine zs5 ?_ | refine zs6 [] ?_); conv => whnf) | ((first | apply zi1 | apply zi2 | apply zi3 | apply zi4 | apply zi5) <;> intro _ <;> conv => whnf) | (refine VCall.intro (vc_rcheck f _ hn) ?_; conv => whnf))
  · exact VOut.same rfl
  all_goals (rename_i h1; exact absurd (by simpa using h1) h0)
theorem vc_rOwners_ok (f : Fil) (h : Hp) (h0 : chk f = 0) (hb : Few f) : VC Try.prog 17 [vF f] h (.tuple [ints (osL f), I 0]) h := by
  have hn := (chk_zero h0).2.2.1
  have hS : ∀ h, VC Try.prog 35 [vF f] h (I 0) h := fun h => h0 ▸ vc_rcheck f h (by omega)
  have hT := vc_truths f (hl := by omega) (hp := chk_paps h0) (hb := hb)
  have hok := fun t (ht : t ∈ tru f.ps) => tru_okt h0 ht
  have hln : (tru f.ps).length ≤ 1000000 := by have := hb f.ps.length; rwa [List.take_of_length_le (Nat.le_refl _)] at this
  have hio : ∀ x, isOwn f x = (tru f.ps).any fun t => decide ((own f t).1 = x) := fun x => rfl
  unfold osL
  obtain ⟨T, hTT⟩ : ∃ T, T = tru f.ps := ⟨_, rfl⟩
  rw [← hTT] at hT hok hln hio
  refine VC.body Try.func17 rfl Try.ntmps17 Try.call17 (h.grows_refl) rfl ?_; conv => whnf
  repeat' (first | ((first | refine zs1 ?_ | refine zs2 ?_ | refine zs3 ?_ | refine zs4 ?_ | refine zs5 ?_ | refine zs6 [] ?_); conv => whnf) | ((first | apply zi1 | apply zi2 | apply zi3 | apply zi4 | apply zi5) <;> intro _ <;> conv => whnf) | (refine VCall.intro (hS _) ?_; conv => whnf) | (refine VCall.intro (hT _) ?_; conv => whnf))
  refine VCode.lp (fun k : Nat => [(1, .ptr (.loc 0) 0), (5, intss T), (6, .gl (.loc 1) 1 (selS (fun k => isOwn f k) k).length), (7, I k)]) (fun k => [.flat true (encF f), .flat true ((selS (fun k => isOwn f k) k).flatMap encI)]) (fun k => k ≤ 3) (fun k => 3 - k) 0 (Nat.zero_le _) ?_ ?_
  · conv => whnf
    refine Retell.turn ⟨[0,1], 1, [], []⟩ (TurnOk.mk' _ _ [] [] (OutOk.lift _) rfl (by decide) zb trivial trivial rfl) zv zm
  · intro k hk
    have hsl := selS_len (fun k => isOwn f k) k
    conv => whnf
    refine VIte.dec (fun h3 => ?_) (fun h3 => ?_)
    · conv => whnf
      repeat (first | ((first | refine zs1 ?_ | refine zs2 ?_ | refine zs3 ?_ | refine zs4 ?_ | refine zs5 ?_ | refine zs6 [] ?_); conv => whnf))
      obtain ⟨R, hR⟩ : ∃ R, R = isOwn f k := ⟨_, rfl⟩
      have hR2 := hR.trans (hio k)
      refine VCode.lp (fun x : Nat × Bool => [(1, .ptr (.loc 0) 0), (5, intss T), (6, .gl (.loc 1) 1 (selS (fun k => isOwn f k) k).length), (7, I k), (8, B x.2), (9, I x.1)]) (fun _ => [.flat true (encF f), .flat true ((selS (fun k => isOwn f k) k).flatMap encI)]) (fun x => x.1 ≤ T.length ∧ R = (x.2 || (T.drop x.1).any fun t => decide ((own f t).1 = k))) (fun x => T.length - x.1) (0, false) ⟨Nat.zero_le _, hR2⟩ ?_ ?_
      · conv => whnf
        refine Retell.turn ⟨[0,1], 2, [], []⟩ (TurnOk.mk' _ _ [] [] (OutOk.lift _) rfl (by decide) zb trivial trivial rfl) zv zm
      · rintro ⟨j, b⟩ ⟨g1, g2⟩
        simp only at g1 g2
        conv => whnf
        refine VIte.dec (fun g3 => ?_) (fun g3 => ?_)
        · have hx : T[j]? = some T[j] := List.getElem?_eq_getElem (by omega)
          have hox := hok T[j] (List.getElem_mem (by omega))
          generalize T[j] = t at hx hox
          rw [any_drop hx] at g2
          conv => whnf
          repeat' (first | ((first | refine zs1 ?_ | refine zs2 ?_ | refine zs3 ?_ | refine zs4 ?_ | refine zs5 ?_ | refine zs6 [] ?_); conv => whnf) | ((first | apply zi1 | apply zi2 | apply zi3 | apply zi4 | apply zi5) <;> intro _ <;> conv => whnf) | (refine VAny.ix encL_len j rfl rfl hx ?_; conv => whnf) | (refine VCall.intro (vc_owner f t _ hox) ?_; conv => whnf))
          · rename_i hbt
            have hbt : b = true := hbt
            subst hbt
            refine LEnd.intro (j + 1, true) ⟨by simp only; omega, by rw [g2]; rfl⟩ (by simp only; omega) ?_
            conv => whnf
            refine Retell.turn ⟨[0,1], 2, [], []⟩ (TurnOk.mk' _ _ [] [] (OutOk.lift _) rfl (by decide) zb trivial trivial rfl) zv zm
          · rename_i hbt
            have hbt : b = false := by simpa using hbt
            subst hbt
            refine LEnd.intro (j + 1, decide ((own f t).1 = k)) ⟨by simp only; omega, by rw [g2, Bool.false_or]⟩ (by simp only; omega) ?_
            conv => whnf
            refine Retell.turn ⟨[0,1], 2, [], []⟩ (TurnOk.mk' _ _ [] [] (OutOk.lift _) rfl (by decide) zb trivial trivial rfl) zv zm
        · rw [List.drop_of_length_le (by omega), List.any_nil, Bool.or_false] at g2
          subst g2
          conv => whnf
          repeat (first | ((first | refine zs1 ?_ | refine zs2 ?_ | refine zs3 ?_ | refine zs4 ?_ | refine zs5 ?_ | refine zs6 [] ?_); conv => whnf))
          cases R
          · conv => whnf
            repeat (first | ((first | refine zs1 ?_ | refine zs2 ?_ | refine zs3 ?_ | refine zs4 ?_ | refine zs5 ?_ | refine zs6 [] ?_); conv => whnf))
            refine LEnd.intro (k + 1) (by omega) (by omega) ?_
            conv => whnf
            rw [selS, ← hR, if_neg (by simp)]
            refine Retell.turn ⟨[0,1], 2, [], []⟩ (TurnOk.mk' _ _ [] [] (OutOk.lift _) rfl (by decide) zb trivial trivial rfl) zv zm
          · conv => whnf
            repeat (first | ((first | refine zs1 ?_ | refine zs2 ?_ | refine zs3 ?_ | refine zs4 ?_ | refine zs5 ?_ | refine zs6 [] ?_); conv => whnf))
            refine VMem.app1 (k : Int) encI_len rfl rfl rfl rfl rfl (by omega) ?_
            conv => whnf
            repeat (first | ((first | refine zs1 ?_ | refine zs2 ?_ | refine zs3 ?_ | refine zs4 ?_ | refine zs5 ?_ | refine zs6 [] ?_); conv => whnf))
            refine LEnd.intro (k + 1) (by omega) (by omega) ?_
            conv => whnf
            rw [selS, ← hR, if_pos rfl, List.length_append]
            refine Retell.turn ⟨[0,3], 4, [], []⟩ (TurnOk.mk' _ _ [] [] (OutOk.lift _) rfl (by decide) zb trivial trivial rfl) zv zm
    · conv => whnf
      have hk' : k = 3 := by omega
      subst hk'
      repeat (first | ((first | refine zs1 ?_ | refine zs2 ?_ | refine zs3 ?_ | refine zs4 ?_ | refine zs5 ?_ | refine zs6 [] ?_); conv => whnf))
      refine VOut.data 2 [(1, (selS (fun k => isOwn f k) 3).flatMap encI)] [] rfl zf (by exact FmAll.nil) zv
end Go.Proofs.Ytolnajnlcdacmaa

open Go.Vm
namespace Go.Proofs.Ytolnajnlcdacmaa
set_option maxRecDepth 20000
set_option maxHeartbeats 1000000

theorem mem_selS {q : Nat → Bool} {x : Int} : ∀ {k : Nat}, x ∈ selS q k ↔ ∃ j : Nat, j < k ∧ x = j ∧ q j = true
  | 0 => by simp [selS]
  | k + 1 => by
    rw [selS]
    constructor
    · intro h
      split at h
      · rename_i hq
        rcases List.mem_append.1 h with h | h
        · obtain ⟨j, h1, h2, h3⟩ := mem_selS.1 h; exact ⟨j, by omega, h2, h3⟩
        · rw [List.mem_singleton] at h; exact ⟨k, by omega, h, hq⟩
      · obtain ⟨j, h1, h2, h3⟩ := mem_selS.1 h; exact ⟨j, by omega, h2, h3⟩
    · rintro ⟨j, h1, h2, h3⟩
      rcases Nat.eq_or_lt_of_le (Nat.le_of_lt_succ h1) with h4 | h4
      · subst h4; rw [if_pos h3]; simp [h2]
      · have := mem_selS.2 ⟨j, h4, h2, h3⟩
        split
        · simp [this]
        · exact this
theorem mem_osL {f : Fil} {x : Int} (h : 0 ≤ x ∧ x ≤ 2) : x ∈ osL f ↔ isOwn f x = true := by
  unfold osL
  rw [mem_selS]
  constructor
  · rintro ⟨j, _, rfl, hq⟩; exact hq
  · intro hq; exact ⟨x.toNat, by omega, by omega, by rw [show ((x.toNat : Nat) : Int) = x by omega]; exact hq⟩
def someE (f : Fil) (x : Int) : Int := if chk f ≠ 0 then chk f else if x < 0 ∨ 2 < x then 4 else bif isOwn f x then 0 else 7
theorem vc_Some (f : Fil) (x : Int) (h : Hp) (hn : f.ps.length ≤ 4000000) (hb : chk f = 0 → Few f) : VC Try.prog 20 [vF f, I x] h (I (someE f x)) h := by
  unfold someE
  by_cases h0 : chk f = 0
  case neg =>
    rw [if_pos h0]
    refine VC.body Try.func20 rfl Try.ntmps20 Try.call20 (h.grows_refl) rfl ?_; conv => whnf
    repeat' (first | ((first | refine zs1 ?_ | refine zs2 ?_ | refine zs3 ?_ | refine zs4 ?_ | refine zs5 ?_ | refine zs6 [] ?_); conv => whnf) | ((first | apply zi1 | apply zi2 | apply zi3 | apply zi4 | apply zi5) <;> intro _ <;> conv => whnf) | (refine VCall.intro (vc_rOwners_no f _ hn h0) ?_; conv => whnf))
    · exact VOut.same rfl
    all_goals (rename_i h1; exact absurd (by simpa using h1) h0)
  case pos =>
    rw [if_neg (by simpa using h0)]
    have hol := selS_len (fun k => isOwn f k) 3
    have hmo := fun hx => mem_osL (f := f) (x := x) hx
    have hR := vc_rOwners_ok f (h0 := h0) (hb := hb h0)
    change (osL f).length ≤ 3 at hol
    obtain ⟨L, hL⟩ : ∃ L, L = osL f := ⟨_, rfl⟩
    rw [← hL] at hol hmo hR
    refine VC.body Try.func20 rfl Try.ntmps20 Try.call20 (h.grows_refl) rfl ?_; conv => whnf
    repeat' (first | ((first | refine zs1 ?_ | refine zs2 ?_ | refine zs3 ?_ | refine zs4 ?_ | refine zs5 ?_ | refine zs6 [] ?_); conv => whnf) | ((first | apply zi1 | apply zi2 | apply zi3 | apply zi4 | apply zi5) <;> intro _ <;> conv => whnf) | (refine VCall.intro (hR _) ?_; conv => whnf) | (refine VCall.intro (vc_beside _ _ _ _) ?_; conv => whnf))
    · rw [if_pos (by omega)]
      exact VOut.same rfl
    · rw [if_neg (by omega)]
      have hmo := hmo (by omega)
      refine VCode.lp (fun k : Nat => [(1, I x), (5, ints L), (7, I k)]) (fun _ => []) (fun k => k ≤ L.length ∧ x ∉ L.take k) (fun k => L.length - k) 0 ⟨Nat.zero_le _, by simp⟩ ?_ ?_
      · conv => whnf
        refine Retell.turn ⟨[], 1, [], []⟩ (TurnOk.mk' _ _ [] [] (OutOk.lift _) rfl (by decide) zb trivial trivial rfl) zv zm
      · rintro k ⟨h1, h2⟩
        conv => whnf
        refine VIte.dec (fun h3 => ?_) (fun h3 => ?_)
        · have ha : L[k]? = some L[k] := List.getElem?_eq_getElem (by omega)
          have hts : L.take (k + 1) = L.take k ++ [L[k]] := by rw [List.take_add_one, ha]; rfl
          have hmem := List.getElem_mem (l := L) (n := k) (by omega)
          generalize L[k] = a at ha hts hmem
          conv => whnf
          repeat' (first | ((first | refine zs1 ?_ | refine zs2 ?_ | refine zs3 ?_ | refine zs4 ?_ | refine zs5 ?_ | refine zs6 [] ?_); conv => whnf) | ((first | apply zi1 | apply zi2 | apply zi3 | apply zi4 | apply zi5) <;> intro _ <;> conv => whnf) | (refine VAny.ix encI_len k (by omega) rfl ha ?_; conv => whnf))
          · rename_i hax
            subst hax
            rw [hmo.1 hmem]
            exact VOut.same rfl
          · rename_i hax
            refine LEnd.intro (k + 1) ⟨by omega, by rw [hts]; simp [h2]; omega⟩ (by omega) ?_
            conv => whnf
            refine Retell.turn ⟨[], 0, [], []⟩ (TurnOk.mk' _ _ [] [] (OutOk.lift _) rfl (by decide) zb trivial trivial rfl) zv zm
        · rw [List.take_of_length_le (by omega)] at h2
          have : isOwn f x = false := Bool.eq_false_iff.2 fun hq => h2 (hmo.2 hq)
          rw [this]
          conv => whnf
          repeat (first | ((first | refine zs1 ?_ | refine zs2 ?_ | refine zs3 ?_ | refine zs4 ?_ | refine zs5 ?_ | refine zs6 [] ?_); conv => whnf))
          exact VOut.same rfl
end Go.Proofs.Ytolnajnlcdacmaa

open Go.Vm
namespace Go.Proofs.Ytolnajnlcdacmaa
set_option maxRecDepth 20000
set_option maxHeartbeats 1000000

structure Sn where
  found : Bool
  lo : Int
  hi : Int
def snF (f : Fil) (x : Int) (s : Sn) (t : List Int) : Sn :=
  if (own f t).1 = x then ⟨true, if s.found = false ∨ (own f t).2 < s.lo then (own f t).2 else s.lo, if s.found = false ∨ s.hi < (own f t).2 then (own f t).2 else s.hi⟩ else s
def sn (f : Fil) (x : Int) : Sn := (tru f.ps).foldl (snF f x) ⟨false, 0, 0⟩
def sinceE (f : Fil) (x : Int) : Int := if chk f ≠ 0 then chk f else if x < 0 ∨ 1 < x then 4 else bif (sn f x).found then 0 else 7
def sinceR (f : Fil) (x : Int) : V := .tuple [bif decide (sinceE f x = 0) then .agg [I (sn f x).lo, I (sn f x).hi] else .agg [I 0, I 0], I (sinceE f x)]
theorem foldl_drop {α β : Type} (g : β → α → β) {l : List α} {k : Nat} {x : α} (s : β) (hx : l[k]? = some x) : (l.drop k).foldl g s = (l.drop (k + 1)).foldl g (g s x) := by
  obtain ⟨h1, rfl⟩ := List.getElem?_eq_some_iff.1 hx
  rw [List.drop_eq_getElem_cons h1, List.foldl_cons]
theorem vc_rSince (f : Fil) (x : Int) (h : Hp) (hn : f.ps.length ≤ 4000000) (hb : chk f = 0 → Few f) : VC Try.prog 23 [vF f, I x] h (sinceR f x) h := by
  have hre : ∀ e, sinceE f x = e → e ≠ 0 → sinceR f x = .tuple [.agg [I 0, I 0], I e] := fun e he h0 => by unfold sinceR; rw [he, decide_eq_false h0]; rfl
  by_cases h0 : chk f = 0
  case neg =>
    rw [hre (chk f) (if_pos h0) h0]
    refine VC.body Try.func23 rfl Try.ntmps23 Try.call23 (h.grows_refl) rfl ?_; conv => whnf
    repeat' (first | ((first | refine zs1 ?_ | refine zs2 ?_ | refine zs3 ?_ | refine zs4 ?_ | refine zs5 ?_ | refine zs6 [] ?_); conv => whnf) | ((first | apply zi1 | apply zi2 | apply zi3 | apply zi4 | apply zi5) <;> intro _ <;> conv => whnf) | (refine VCall.intro (vc_rcheck f _ hn) ?_; conv => whnf))
    · exact VOut.same rfl
    all_goals (rename_i h1; exact absurd (by simpa using h1) h0)
  case pos =>
    have hn2 := (chk_zero h0).2.2.1
    have hb := hb h0
    have hS : ∀ h, VC Try.prog 35 [vF f] h (I 0) h := fun h => h0 ▸ vc_rcheck f h (by omega)
    have hT := vc_truths f (hl := by omega) (hp := chk_paps h0) (hb := hb)
    have hok := fun t (ht : t ∈ tru f.ps) => tru_okt h0 ht
    have hln : (tru f.ps).length ≤ 1000000 := by have := hb f.ps.length; rwa [List.take_of_length_le (Nat.le_refl _)] at this
    have he2 : sinceE f x = if x < 0 ∨ 1 < x then 4 else bif (sn f x).found then 0 else 7 := by unfold sinceE; rw [if_neg (by simpa using h0)]
    have hsn : sn f x = (tru f.ps).foldl (snF f x) ⟨false, 0, 0⟩ := rfl
    obtain ⟨T, hTT⟩ : ∃ T, T = tru f.ps := ⟨_, rfl⟩
    rw [← hTT] at hT hok hln hsn
    obtain ⟨R, hRR⟩ : ∃ R, R = sinceR f x := ⟨_, rfl⟩
    rw [← hRR] at hre ⊢
    refine VC.body Try.func23 rfl Try.ntmps23 Try.call23 (h.grows_refl) rfl ?_; conv => whnf
    repeat' (first | ((first | refine zs1 ?_ | refine zs2 ?_ | refine zs3 ?_ | refine zs4 ?_ | refine zs5 ?_ | refine zs6 [] ?_); conv => whnf) | ((first | apply zi1 | apply zi2 | apply zi3 | apply zi4 | apply zi5) <;> intro _ <;> conv => whnf) | (refine VCall.intro (hS _) ?_; conv => whnf) | (refine VCall.intro (hT _) ?_; conv => whnf) | (refine VCall.intro (vc_beside _ _ _ _) ?_; conv => whnf))
    · rw [if_pos (by omega)] at he2
      rw [hre 4 he2 (by decide)]
      exact VOut.same rfl
    · rw [if_neg (by omega)] at he2
      refine VCode.lp (fun y : Nat × Sn => [(1, I x), (2, .ptr (.loc 0) 0), (4, .ptr (.loc 1) 0), (7, intss T), (8, .ptr (.loc 2) 0), (9, B y.2.found), (10, I y.1)]) (fun y => [.flat true (encF f), .flat true [DI 0, DI 0], .flat true [DI y.2.lo, DI y.2.hi]]) (fun y => y.1 ≤ T.length ∧ sn f x = (T.drop y.1).foldl (snF f x) y.2) (fun y => T.length - y.1) (0, ⟨false, 0, 0⟩) ⟨Nat.zero_le _, hsn⟩ ?_ ?_
      · conv => whnf
        refine Retell.turn ⟨[0,1,2], 3, [], []⟩ (TurnOk.mk' _ _ [] [] (OutOk.lift _) rfl (by decide) zb trivial trivial rfl) zv zm
      · rintro ⟨j, ⟨fd, lo, hi⟩⟩ ⟨g1, g2⟩
        simp only at g1 g2
        conv => whnf
        refine VIte.dec (fun g3 => ?_) (fun g3 => ?_)
        · have hx : T[j]? = some T[j] := List.getElem?_eq_getElem (by omega)
          have hox := hok T[j] (List.getElem_mem (by omega))
          generalize T[j] = t at hx hox
          rw [foldl_drop _ _ hx] at g2
          have hs1 : (own f t).1 = x → snF f x ⟨fd, lo, hi⟩ t = ⟨true, if fd = false ∨ (own f t).2 < lo then (own f t).2 else lo, if fd = false ∨ hi < (own f t).2 then (own f t).2 else hi⟩ := fun hc => if_pos hc
          have hs2 : ¬ (own f t).1 = x → snF f x ⟨fd, lo, hi⟩ t = ⟨fd, lo, hi⟩ := fun hc => if_neg hc
          obtain ⟨LO, hLO⟩ : ∃ LO, LO = (if fd = false ∨ (own f t).2 < lo then (own f t).2 else lo) := ⟨_, rfl⟩
          obtain ⟨HI, hHI⟩ : ∃ HI, HI = (if fd = false ∨ hi < (own f t).2 then (own f t).2 else hi) := ⟨_, rfl⟩
          rw [← hLO, ← hHI] at hs1
          have l1 : (fd = false ∨ (own f t).2 < lo) → LO = (own f t).2 := fun hc => by rw [hLO, if_pos hc]
          have l2 : ¬ (fd = false ∨ (own f t).2 < lo) → LO = lo := fun hc => by rw [hLO, if_neg hc]
          have m1 : (fd = false ∨ hi < (own f t).2) → HI = (own f t).2 := fun hc => by rw [hHI, if_pos hc]
          have m2 : ¬ (fd = false ∨ hi < (own f t).2) → HI = hi := fun hc => by rw [hHI, if_neg hc]
          cases fd
          all_goals (
            conv => whnf
            repeat' (first | ((first | refine zs1 ?_ | refine zs2 ?_ | refine zs3 ?_ | refine zs4 ?_ | refine zs5 ?_ | refine zs6 [] ?_); conv => whnf) | ((first | apply zi1 | apply zi2 | apply zi3 | apply zi4 | apply zi5) <;> intro _ <;> conv => whnf) | (refine VAny.ix encL_len j rfl rfl hx ?_; conv => whnf) | (refine VCall.intro (vc_owner f t _ hox) ?_; conv => whnf)))
          all_goals (try dsimp only at *)
          all_goals first
            | (rw [hs2 (by omega)] at g2
               refine LEnd.intro (j + 1, ⟨_, lo, hi⟩) ⟨by simp only; omega, g2⟩ (by simp only; omega) ?_
               conv => whnf
               refine Retell.turn ⟨[0,1,2], 3, [], []⟩ (TurnOk.mk' _ _ [] [] (OutOk.lift _) rfl (by decide) zb trivial trivial rfl) zv zm)
            | (rw [hs1 (by omega)] at g2
               refine LEnd.intro (j + 1, ⟨true, LO, HI⟩) ⟨by simp only; omega, g2⟩ (by simp only; omega) ?_
               conv => whnf
               first | rw [l1 (.inl rfl)] | rw [l1 (.inr (by omega))] | rw [l2 (by intro h9; rcases h9 with h9 | h9 <;> first | (cases h9; done) | omega)]
               first | rw [m1 (.inl rfl)] | rw [m1 (.inr (by omega))] | rw [m2 (by intro h9; rcases h9 with h9 | h9 <;> first | (cases h9; done) | omega)]
               refine Retell.turn ⟨[0,1,2], 3, [], []⟩ (TurnOk.mk' _ _ [] [] (OutOk.lift _) rfl (by decide) zb trivial trivial rfl) zv zm)
        · rw [List.drop_of_length_le (by omega), List.foldl_nil] at g2
          have hsr : sinceE f x = 0 → R = .tuple [.agg [I lo, I hi], I 0] := fun e => by rw [hRR]; unfold sinceR; rw [e, g2]; rfl
          rw [g2] at he2
          cases fd
          · rw [hre 7 he2 (by decide)]
            conv => whnf
            repeat (first | ((first | refine zs1 ?_ | refine zs2 ?_ | refine zs3 ?_ | refine zs4 ?_ | refine zs5 ?_ | refine zs6 [] ?_); conv => whnf))
            exact VOut.same rfl
          · rw [hsr he2]
            conv => whnf
            repeat (first | ((first | refine zs1 ?_ | refine zs2 ?_ | refine zs3 ?_ | refine zs4 ?_ | refine zs5 ?_ | refine zs6 [] ?_); conv => whnf))
            exact VOut.same rfl
end Go.Proofs.Ytolnajnlcdacmaa

open Go.Vm
namespace Go.Proofs.Ytolnajnlcdacmaa
set_option maxRecDepth 20000
set_option maxHeartbeats 1000000

def aggP (p : Pap) : V := .agg [I p.side, I p.lo, I p.hi]
theorem vc_years (p : Pap) (h : Hp) : VC Try.prog 84 [aggP p] h (.func (.func 91) [] [.fp (encP p)]) h := by
  refine VC.body Try.func84 rfl Try.ntmps84 Try.call84 (h.grows_refl) rfl ?_; conv => whnf
  repeat (first | ((first | refine zs1 ?_ | refine zs2 ?_ | refine zs3 ?_ | refine zs4 ?_ | refine zs5 ?_ | refine zs6 [] ?_); conv => whnf))
  refine VOut.data 1 [(0, encP p)] [] rfl zf (by exact FmAll.nil) zv
end Go.Proofs.Ytolnajnlcdacmaa

open Go.Vm
namespace Go.Proofs.Ytolnajnlcdacmaa
set_option maxRecDepth 20000
set_option maxHeartbeats 1000000

theorem vc_years1 (p : Pap) (hlo : -1000000 ≤ p.lo) (hhi : p.hi ≤ 1000000) : Iter Try.prog 91 [.fp (encP p)] (p.hi - p.lo + 1).toNat (fun j => I (p.lo + j)) := by
  intro h i J hs h0
  obtain ⟨g, g0, g1, g2⟩ := iter_seq hs h0
  obtain ⟨M, hM⟩ : ∃ M, M = (p.hi - p.lo + 1).toNat := ⟨_, rfl⟩
  rw [← hM] at g1 g2 ⊢
  have hgr : ∀ j, j ≤ M → h.grows (g j) := by
    intro j
    induction j with
    | zero => intro _; rw [g0]; exact h.grows_refl
    | succ j ih => intro hj; exact fun k hk => (g2 j (by omega)).1 k (ih (by omega) k hk)
  refine ⟨g M, ?_, g1 M (Nat.le_refl _)⟩
  refine VC.body Try.func91 rfl Try.ntmps91 Try.call91 (hgr M (Nat.le_refl _)) rfl ?_
  conv => whnf
  repeat (first | ((first | refine zs1 ?_ | refine zs2 ?_ | refine zs3 ?_ | refine zs4 ?_ | refine zs5 ?_ | refine zs6 [] ?_); conv => whnf))
  refine VCode.lpo (fun k : Nat => [(0, .yld (.out i)), (1, .fp (encP p)), (3, I (p.lo + k))]) (fun k => (g k).lift) (fun _ => []) (fun k => k ≤ M) (fun k => M - k) 0 (Nat.zero_le _) (by rw [g0]) ?_ ?_
  · conv => whnf
    refine Retell.turn ⟨[], 0, [], []⟩ (TurnOk.mk' _ _ [] [] (OutOk.lift _) rfl (by decide) zb trivial trivial rfl) zv zm
  · rintro k hk
    conv => whnf
    repeat' (first | ((first | refine zs1 ?_ | refine zs2 ?_ | refine zs3 ?_ | refine zs4 ?_ | refine zs5 ?_ | refine zs6 [] ?_); conv => whnf) | ((first | apply zi1 | apply zi2 | apply zi3 | apply zi4 | apply zi5) <;> intro _ <;> conv => whnf) | (refine VYield.intro (VY.lift [] (g2 k (by omega))) ?_; conv => whnf))
    · refine LEndO.intro (k + 1) (by omega) (by omega) rfl ?_
      conv => whnf
      refine Retell.turn ⟨[], 0, [], []⟩ (TurnOk.mk' _ _ [] [] (OutOk.lift _) rfl (by decide) zb trivial trivial rfl) zv zm
    · have hkM : k = M := by omega
      subst hkM
      exact VOut.lifted (r := .tuple []) (hgr k (Nat.le_refl _))
end Go.Proofs.Ytolnajnlcdacmaa

open Go.Vm
namespace Go.Proofs.Ytolnajnlcdacmaa
set_option maxRecDepth 20000
set_option maxHeartbeats 1000000

abbrev AL := List (End × End)
def hasK (a : AL) (e : End) : Bool := a.any fun x => decide (x.1 = e)
def alGet (a : AL) (e : End) : Option End := (a.find? fun x => decide (x.1 = e)).map (·.2)
def goesB (f : Fil) (i : Nat) (y a : Int) : Bool := decide (0 < i ∧ sdAt f i = sdAt f (i - 1) ∧ y - a ≤ f.G)
def isE (f : Fil) (i : Nat) (p : Pap) (was : End) (y : Int) : End :=
  bif decide (¬ (bif goesB f i y was.year then was.first else y) = -1 ∧ f.Y ≤ y - (bif goesB f i y was.year then was.first else y)) then ⟨i, y, -1, p.side, y⟩
  else ⟨i, y, bif goesB f i y was.year then was.first else y, was.side, was.since⟩
def gY (f : Fil) (i : Nat) (p : Pap) (was : End) (s : AL × List End) (y : Int) : AL × List End :=
  bif hasK s.1 (isE f i p was y) then s else (s.1 ++ [(isE f i p was y, was)], s.2 ++ [isE f i p was y])
def gYs (f : Fil) (i : Nat) (p : Pap) (was : End) (s : AL × List End) : Nat → AL × List End
  | 0 => s
  | k + 1 => gY f i p was (gYs f i p was s k) (p.lo + k)
def gW (f : Fil) (i : Nat) (p : Pap) (s : AL × List End) (was : End) : AL × List End := gYs f i p was s (p.hi - p.lo + 1).toNat
def gP (f : Fil) : List Pap → Nat → AL × List End → AL × List End
  | [], _, s => s
  | p :: r, i, s => gP f r (i + 1) (s.2.foldl (gW f i p) (s.1, []))
def beg : End := ⟨-1, 0, 0, 2, 0⟩
def gone (f : Fil) : AL × List End := gP f f.ps 0 ([], [beg])
theorem gP_at {f : Fil} {ps : List Pap} {k : Nat} {p : Pap} {s : AL × List End} (h : ps[k]? = some p) : gP f (ps.drop k) k s = gP f (ps.drop (k + 1)) (k + 1) (s.2.foldl (gW f k p) (s.1, [])) := by
  obtain ⟨hlt, rfl⟩ := List.getElem?_eq_some_iff.1 h
  rw [List.drop_eq_getElem_cons hlt, gP]
theorem gW_at {f : Fil} {i : Nat} {p : Pap} {now : List End} {j : Nat} {w : End} {s : AL × List End} (h : now[j]? = some w) : (now.drop j).foldl (gW f i p) s = (now.drop (j + 1)).foldl (gW f i p) (gW f i p s w) := by
  obtain ⟨hlt, rfl⟩ := List.getElem?_eq_some_iff.1 h
  rw [List.drop_eq_getElem_cons hlt, List.foldl_cons]
/-! ### How many there can be -/

theorem nodup_bd : ∀ (M : Nat) (l : List Nat), l.Nodup → (∀ x ∈ l, x < M) → l.length ≤ M
  | 0, l, _, h => by
    cases l with
    | nil => simp
    | cons a l => exact absurd (h a (by simp)) (by omega)
  | M + 1, l, hn, h => by
    have ih := nodup_bd M (l.erase M) (hn.erase M) (fun x hx => by
      have h1 := (List.Nodup.mem_erase_iff hn).1 hx
      have h2 := h x h1.2
      have h3 := h1.1
      omega)
    by_cases hm : M ∈ l
    · rw [List.length_erase_of_mem hm] at ih; omega
    · rw [List.erase_of_not_mem hm] at ih; omega
structure EOk (e : End) : Prop where
  year : 0 ≤ e.year ∧ e.year ≤ 3000
  first : -1 ≤ e.first ∧ e.first ≤ 3000
  side : 0 ≤ e.side ∧ e.side ≤ 2
  since : 0 ≤ e.since ∧ e.since ≤ 3000
structure GI (i : Int) (p : Pap) (s : AL × List End) : Prop where
  ok : ∀ e ∈ s.2, EOk e
  at_ : ∀ e ∈ s.2, e.i = i ∧ p.lo ≤ e.year ∧ e.year ≤ p.lo + 3
  nodup : s.2.Nodup
  has : ∀ e ∈ s.2, hasK s.1 e = true
theorem GI.len {i : Int} {p : Pap} {s : AL × List End} (g : GI i p s) : s.2.length ≤ 108108024 := by
  let c : End → Nat := fun e => (((e.year - p.lo).toNat * 3002 + (e.first + 1).toNat) * 3 + e.side.toNat) * 3001 + e.since.toNat
  have h1 : (s.2.map c).Nodup := by
    unfold List.Nodup
    rw [List.pairwise_map]
    refine List.Pairwise.imp_of_mem ?_ g.nodup
    intro a b ha hb hab hc
    apply hab
    obtain ⟨a1, a2, a3, a4⟩ := g.ok a ha
    obtain ⟨b1, b2, b3, b4⟩ := g.ok b hb
    obtain ⟨a5, a6, a7⟩ := g.at_ a ha
    obtain ⟨b5, b6, b7⟩ := g.at_ b hb
    obtain ⟨i1, y1, f1, s1, n1⟩ := a
    obtain ⟨i2, y2, f2, s2, n2⟩ := b
    simp only [c] at *
    have e1 : n1 = n2 := by omega
    have e2 : s1 = s2 := by omega
    have e3 : f1 = f2 := by omega
    have e4 : y1 = y2 := by omega
    rw [e1, e2, e3, e4, a5, b5]
  have h2 : ∀ x ∈ s.2.map c, x < 108108024 := by
    intro x hx
    obtain ⟨a, ha, rfl⟩ := List.mem_map.1 hx
    obtain ⟨a1, a2, a3, a4⟩ := g.ok a ha
    obtain ⟨a5, a6, a7⟩ := g.at_ a ha
    simp only [c]
    omega
  have := nodup_bd 108108024 _ h1 h2
  simpa using this
theorem isE_ok {f : Fil} {i : Nat} {p : Pap} {was : End} {y : Int} (hp : p.side = 0 ∨ p.side = 1) (hw : EOk was) (hy : 0 ≤ y ∧ y ≤ 3000) : EOk (isE f i p was y) ∧ (isE f i p was y).i = i ∧ (isE f i p was y).year = y := by
  obtain ⟨a1, a2, a3, a4⟩ := hw
  unfold isE
  obtain ⟨st, hst⟩ : ∃ st, st = (bif goesB f i y was.year then was.first else y) := ⟨_, rfl⟩
  have hb : -1 ≤ st ∧ st ≤ 3000 := by rw [hst]; cases goesB f i y was.year <;> simp only [cond_true, cond_false] <;> omega
  rw [← hst]
  cases decide (¬ st = -1 ∧ f.Y ≤ y - st) <;> simp only [cond_true, cond_false] <;> exact ⟨⟨by simp only; omega, by simp only; omega, by simp only; omega, by simp only; omega⟩, trivial, trivial⟩
theorem hasK_snoc (a : AL) (e v x : End) : hasK (a ++ [(e, v)]) x = (hasK a x || decide (e = x)) := by simp [hasK]
theorem GI.gY {f : Fil} {i : Nat} {p : Pap} {s : AL × List End} {was : End} {y : Int} (g : GI i p s) (hp : p.side = 0 ∨ p.side = 1) (hw : EOk was) (hy : 0 ≤ y ∧ y ≤ 3000) (hy2 : p.lo ≤ y ∧ y ≤ p.lo + 3) : GI i p (gY f i p was s y) := by
  obtain ⟨h1, h2, h3⟩ := isE_ok (f := f) (i := i) (y := y) hp hw hy
  unfold Ytolnajnlcdacmaa.gY
  generalize isE f i p was y = E at h1 h2 h3
  cases hk : hasK s.1 E
  · refine ⟨?_, ?_, ?_, ?_⟩
    · intro e he
      simp only [cond_false, List.mem_append, List.mem_singleton] at he
      rcases he with he | rfl
      · exact g.ok e he
      · exact h1
    · intro e he
      simp only [cond_false, List.mem_append, List.mem_singleton] at he
      rcases he with he | rfl
      · exact g.at_ e he
      · exact ⟨h2, by omega, by omega⟩
    · simp only [cond_false]
      rw [List.nodup_append]
      refine ⟨g.nodup, by simp, ?_⟩
      intro a ha b hb hab
      rw [List.mem_singleton] at hb
      have := g.has a ha
      rw [hab, hb, hk] at this; cases this
    · intro e he
      simp only [cond_false, List.mem_append, List.mem_singleton] at he ⊢
      rw [hasK_snoc]
      rcases he with he | rfl
      · rw [g.has e he]; rfl
      · simp
  · exact g
theorem GI.gYs {f : Fil} {i : Nat} {p : Pap} {s : AL × List End} {was : End} (g : GI i p s) (hp : p.side = 0 ∨ p.side = 1) (hw : EOk was) (h0 : 0 ≤ p.lo) (h1 : p.hi ≤ 3000) (h2 : p.hi ≤ p.lo + 3) : ∀ k, k ≤ (p.hi - p.lo + 1).toNat → GI i p (gYs f i p was s k)
  | 0, _ => g
  | k + 1, hk => by
    rw [Ytolnajnlcdacmaa.gYs]
    exact (GI.gYs g hp hw h0 h1 h2 k (by omega)).gY hp hw (by omega) (by omega)
structure POk (p : Pap) : Prop where
  side : p.side = 0 ∨ p.side = 1
  lo : 0 ≤ p.lo
  hi : p.hi ≤ 3000
  le : p.lo ≤ p.hi
  near : p.hi ≤ p.lo + 3
theorem chk_pok {f : Fil} (h : chk f = 0) : ∀ p ∈ f.ps, POk p := by
  obtain ⟨_, _, _, d⟩ := chk_zero h
  intro p hp
  have := chkGo_zero d p hp
  unfold badPap at this
  exact ⟨by omega, by omega, by omega, by omega, by omega⟩
theorem EOk.beg : EOk beg := by constructor <;> decide
end Go.Proofs.Ytolnajnlcdacmaa

open Go.Vm
namespace Go.Proofs.Ytolnajnlcdacmaa
set_option maxRecDepth 20000
set_option maxHeartbeats 2000000

def esE (a : AL) : List (V × V) := a.map fun x => (aggE x.1, aggE x.2)
def keysE (a : AL) : List D := a.map fun x => .agg (encE x.1)
def valsE (a : AL) : List D := a.map fun x => .agg (encE x.2)
theorem esE_fst (a : AL) : (esE a).map (·.1) = (keysE a).map D.v := by simp only [esE, keysE, List.map_map]; rfl
theorem esE_snd (a : AL) : (esE a).map (·.2) = (valsE a).map D.v := by simp only [esE, valsE, List.map_map]; rfl
theorem esE_zip (a : AL) : (D.vs (keysE a)).zip (D.vs (valsE a)) = esE a := by
  rw [D.vs_eq, D.vs_eq, ← esE_fst, ← esE_snd]
  induction a with
  | nil => rfl
  | cons x a ih => simpa [esE] using ih
theorem esE_ren (a : AL) (ρ : Vm.Id → Vm.Id) : (Blk.map (esE a)).ren ρ = .map (esE a) := by
  unfold Blk.ren
  congr 1
  simp only [esE, List.map_map]
  rfl
theorem BTos.esE {c : TCtx} {loc : List Blk} {pm : List Nat} {bs : List Blk} {j : Nat} {a : AL} (hj : Nat.blt j c.L = true) (hl : loc[j]? = some (.map (esE a))) (r : BTos c loc pm bs) : BTos c loc (j :: pm) (.map (esE a) :: bs) :=
  BTos.map hj hl (by rw [esE_fst]; exact RowTo.dv c _) (by rw [esE_snd]; exact RowTo.dv c _) r
theorem EsTo.esE {c : TCtx} (a : AL) : EsTo c (esE a) (keysE a) (valsE a) := ⟨by rw [esE_fst]; exact RowTo.dv c _, by rw [esE_snd]; exact RowTo.dv c _⟩
theorem top100 : ∃ sh, eqTop Try.prog 100 = some sh ∧ ∀ x y : End, veqSh sh (aggE x) (aggE y) = some (decide (x = y)) := by
  refine ⟨Sh.cons 0 1 false Sh.int (Sh.cons 1 1 false Sh.int (Sh.cons 2 1 false Sh.int (Sh.cons 3 1 false Sh.int (Sh.cons 4 1 false Sh.int Sh.nil)))), by kernel_rfl, fun x y => ?_⟩
  have : ((x.i == y.i) && ((x.year == y.year) && ((x.first == y.first) && ((x.side == y.side) && ((x.since == y.since) && true))))) = decide (x = y) := by
    cases x; cases y; rw [Bool.eq_iff_iff, decide_eq_true_eq]; simp
  rw [← this]
  rfl
theorem found_none {sh : Sh} (hs : ∀ x y : End, veqSh sh (aggE x) (aggE y) = some (decide (x = y))) {a : AL} {e : End} (h : hasK a e = false) : Vm.Found sh (aggE e) (esE a) none := by
  intro j p hp
  simp only [esE, List.getElem?_map, Option.map_eq_some_iff] at hp
  obtain ⟨x, hx, rfl⟩ := hp
  simp only [hs]
  have : x ∈ a := List.mem_of_getElem? hx
  unfold hasK at h
  rw [List.any_eq_false] at h
  have := h x this
  simp only [decide_eq_true_eq] at this
  rw [decide_eq_false (fun e1 => this e1.symm)]
theorem found_some {sh : Sh} (hs : ∀ x y : End, veqSh sh (aggE x) (aggE y) = some (decide (x = y))) : ∀ {a : AL} {e v : End}, alGet a e = some v → ∃ i, Vm.Found sh (aggE e) (esE a) (some (i, aggE v))
  | [], e, v, h => by simp [alGet] at h
  | x :: a, e, v, h => by
    by_cases hx : x.1 = e
    · simp only [alGet, List.find?_cons, hx, decide_true, Option.map_some, Option.some.injEq] at h
      refine ⟨0, aggE x.1, by simp [esE, h], by rw [hs]; simp [hx], fun j p hj => by omega⟩
    · have h' : alGet a e = some v := by simpa [alGet, List.find?_cons, hx] using h
      obtain ⟨i, k0, h1, h2, h3⟩ := found_some hs h'
      refine ⟨i + 1, k0, by simpa [esE] using h1, h2, fun j p hj hp => ?_⟩
      cases j with
      | zero =>
        simp only [esE, List.map_cons, List.getElem?_cons_zero, Option.some.injEq] at hp
        subst hp
        rw [hs, decide_eq_false (fun e1 => hx e1.symm)]
      | succ j => exact h3 j p (by omega) (by simpa [esE] using hp)
theorem hasK_get (a : AL) (e : End) : hasK a e = (alGet a e).isSome := by
  induction a with
  | nil => rfl
  | cons x a ih =>
    by_cases hx : x.1 = e
    · simp [hasK, alGet, hx]
    · simpa [hasK, alGet, hx] using ih
theorem look_esE (a : AL) (e : End) : Look Try.prog (tiOf Try.prog) 95 true (aggE e) (esE a) (match alGet a e with | some v => .tuple [aggE v, B true] | none => .tuple [aggE ⟨0, 0, 0, 0, 0⟩, B false]) := by
  obtain ⟨sh, h1, h2⟩ := top100
  cases hg : alGet a e with
  | none =>
    exact ⟨_, 100, 100, _, sh, true, none, rfl, rfl, h1, by rw [h2]; simp, found_none h2 (by rw [hasK_get, hg]; rfl), rfl⟩
  | some v =>
    obtain ⟨i, hi⟩ := found_some h2 hg
    exact ⟨_, 100, 100, _, sh, true, some (i, aggE v), rfl, rfl, h1, by rw [h2]; simp, hi, rfl⟩
theorem VMem.newE {a : AL} {e v : End} {h : Hp} {i : Vm.Id} {K : V → Hp → Prop} (hb : h.get i = some (.map (esE a))) (hf : hasK a e = false) (hK : K .undef (h.set i (.map (esE (a ++ [(e, v)]))))) : VMem Try.prog (opMapUpdate 95) [.map i, aggE e, aggE v] h K := by
  obtain ⟨sh, h1, h2⟩ := top100
  have : esE (a ++ [(e, v)]) = esE a ++ [(aggE e, aggE v)] := by simp [esE]
  rw [this] at hK
  exact VMem.intro (does_mapNew (tiOf_ok _) (t := 95) rfl rfl h1 (by rw [h2]) (found_none h2 hf) hb) hK
end Go.Proofs.Ytolnajnlcdacmaa


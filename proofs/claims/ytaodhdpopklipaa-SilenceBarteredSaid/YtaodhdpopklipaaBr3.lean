/- Part 3 of the proof that a field that is somebody's by silence is exchanged as theirs, as the law SilenceBartered says. No condition. -/
import Derived.Test.YtaodhdpopklipaaBr2
import Derived.Test.YtaodhdpopklipaaRows
set_option linter.unusedVariables false
set_option linter.unusedSimpArgs false
open Go.Vm
namespace Go.Proofs.Ytaodhdpopklipaa
set_option maxRecDepth 20000
set_option maxHeartbeats 400000

structure Pap where
  side : Int
  lo : Int
  hi : Int
  deriving DecidableEq
def encP (p : Pap) : List D := [DI p.side, DI p.lo, DI p.hi]
theorem encP_len (p : Pap) : (encP p).length = 3 := rfl
structure Fil where
  Y : Int
  G : Int
  ps : List Pap
def paps (ps : List Pap) : V := .fs 3 ps.length (ps.flatMap encP)
def vF (f : Fil) : V := .agg [I f.Y, I f.G, paps f.ps]
def encF (f : Fil) : List D := [DI f.Y, DI f.G, .sl 3 f.ps.length (f.ps.flatMap encP)]
theorem vc_from (n a b : Int) (h : Hp) : VC Try.prog 37 [I n, I a, I b] h (B (decide (a ≤ n ∧ n ≤ b))) h := by
  refine VC.body Try.func37 rfl Try.ntmps37 Try.call37 (h.grows_refl) rfl ?_; conv => whnf
  repeat' (first | ((first | refine zs1 ?_ | refine zs2 ?_ | refine zs3 ?_ | refine zs4 ?_ | refine zs5 ?_ | refine zs6 [] ?_); conv => whnf) | ((first | apply zi1 | apply zi2 | apply zi3 | apply zi4 | apply zi5) <;> intro _ <;> conv => whnf))
  all_goals (refine VOut.same ?_; simp [V.ren]; try omega)
def badPap (p : Pap) : Prop := ¬ (p.side = 0 ∨ p.side = 1) ∨ ¬ (0 ≤ p.lo ∧ p.lo ≤ 3000) ∨ ¬ (p.lo ≤ p.hi ∧ p.hi ≤ min 3000 (p.lo + 3))
instance (p : Pap) : Decidable (badPap p) := by unfold badPap; infer_instance
def chkGo : List Pap → Int → Int
  | [], _ => 0
  | p :: r, last => if badPap p then 4 else if p.lo ≤ last then 5 else chkGo r p.hi
def chk (f : Fil) : Int :=
  if ¬ (1 ≤ f.Y ∧ f.Y ≤ 500) ∨ ¬ (1 ≤ f.G ∧ f.G ≤ 200) then 4 else if 16 < f.ps.length then 3 else chkGo f.ps (-1)
theorem chkGo_at {ps : List Pap} {k : Nat} {p : Pap} {last : Int} (h : ps[k]? = some p) : chkGo (ps.drop k) last = if badPap p then 4 else if p.lo ≤ last then 5 else chkGo (ps.drop (k + 1)) p.hi := by
  obtain ⟨hlt, rfl⟩ := List.getElem?_eq_some_iff.1 h
  rw [List.drop_eq_getElem_cons hlt, chkGo]
set_option maxHeartbeats 1000000 in
theorem vc_check (f : Fil) (h : Hp) (hn : f.ps.length ≤ 4000000) : VC Try.prog 18 [vF f] h (I (chk f)) h := by
  refine VC.body Try.func18 rfl Try.ntmps18 Try.call18 (h.grows_refl) rfl ?_; conv => whnf
  repeat' (first | ((first | refine zs1 ?_ | refine zs2 ?_ | refine zs3 ?_ | refine zs4 ?_ | refine zs5 ?_ | refine zs6 [] ?_); conv => whnf) | ((first | apply zi1 | apply zi2 | apply zi3 | apply zi4 | apply zi5) <;> intro _ <;> conv => whnf) | (refine VCall.intro (vc_from _ _ _ _) ?_; conv => whnf))
  · refine VOut.same ?_; simp [V.ren, chk]; omega
  · refine VOut.same ?_; simp [V.ren, chk]; omega
  · refine VOut.same ?_; simp [V.ren, chk]; omega
  · rename_i h1 h2 h3
    have hc : chk f = chkGo f.ps (-1) := by simp [chk]; omega
    refine VCode.lp (fun x : Nat × Int => [(1, .ptr (.loc 0) 0), (2, I 0), (3, I x.2), (23, paps f.ps), (24, I f.ps.length), (25, I x.1)]) (fun _ => [.flat true (encF f)]) (fun x => x.1 ≤ f.ps.length ∧ chkGo f.ps (-1) = chkGo (f.ps.drop x.1) x.2) (fun x => f.ps.length - x.1) (0, -1) (by simp) ?_ ?_
    · conv => whnf
      refine Retell.turn ⟨[0], 1, [], []⟩ (TurnOk.mk' _ _ [] [] (OutOk.lift _) rfl (by decide) zb trivial trivial rfl) zv zm
    · rintro ⟨k, last⟩ ⟨h4, h5⟩
      simp only at h4 h5
      conv => whnf
      refine VIte.dec (fun h6 => ?_) (fun h6 => ?_)
      · have hk : f.ps[k]? = some f.ps[k] := List.getElem?_eq_getElem (by omega)
        generalize f.ps[k] = p at hk
        rw [chkGo_at hk] at h5
        conv => whnf
        refine VAny.ix encP_len k rfl rfl hk ?_
        conv => whnf
        repeat' (first | ((first | refine zs1 ?_ | refine zs2 ?_ | refine zs3 ?_ | refine zs4 ?_ | refine zs5 ?_ | refine zs6 [] ?_); conv => whnf) | ((first | apply zi1 | apply zi2 | apply zi3 | apply zi4 | apply zi5) <;> intro _ <;> conv => whnf) | (refine VCall.intro (vc_from _ _ _ _) ?_; conv => whnf))
        all_goals first
          | (rw [if_pos (by unfold badPap; omega)] at h5; refine VOut.same ?_; simp [V.ren, hc, h5]; done)
          | (rw [if_neg (by unfold badPap; omega), if_pos (by omega)] at h5; refine VOut.same ?_; simp [V.ren, hc, h5]; done)
          | (rw [if_neg (by unfold badPap; omega), if_neg (by omega)] at h5
             refine LEnd.intro (k + 1, p.hi) ⟨by simp only; omega, h5⟩ (by simp only; omega) ?_
             conv => whnf
             refine Retell.turn ⟨[0], 2, [], []⟩ (TurnOk.mk' _ _ [] [] (OutOk.lift _) rfl (by decide) zb trivial trivial rfl) zv zm)
      · conv => whnf
        refine VOut.same ?_
        have : f.ps.length ≤ k := by omega
        rw [List.drop_of_length_le (by omega), chkGo] at h5
        simp [V.ren, hc, h5]
end Go.Proofs.Ytaodhdpopklipaa

open Go.Vm
namespace Go.Proofs.Ytaodhdpopklipaa
set_option maxRecDepth 20000
set_option maxHeartbeats 1000000

def holdsS : List Pap → List Int → Bool
  | p :: ps, y :: t => decide (p.lo ≤ y ∧ y ≤ p.hi) && holdsS ps t
  | _, _ => true
theorem vc_holds1 (f : Fil) (p : Pap) (i : Nat) (y : Int) (h : Hp) (hp : f.ps[i]? = some p) : VC Try.prog 65 [I i, I y, .fp (encF f)] h (B (decide (p.lo ≤ y ∧ y ≤ p.hi))) h := by
  refine VC.body Try.func65 rfl Try.ntmps65 Try.call65 (h.grows_refl) rfl ?_; conv => whnf
  repeat' (first | ((first | refine zs1 ?_ | refine zs2 ?_ | refine zs3 ?_ | refine zs4 ?_ | refine zs5 ?_ | refine zs6 [] ?_); conv => whnf) | ((first | apply zi1 | apply zi2 | apply zi3 | apply zi4 | apply zi5) <;> intro _ <;> conv => whnf) | (refine VAny.ix encP_len i rfl rfl hp ?_; conv => whnf) | (refine VCall.intro (vc_from _ _ _ _) ?_; conv => whnf))
  all_goals (refine VOut.same ?_; simp [V.ren]; try omega)
def eachS (p : Nat → Int → Bool) : Nat → List Int → Bool
  | _, [] => true
  | i, x :: l => p i x && eachS p (i + 1) l
theorem vc_each (l : List Int) (p : Nat → Int → Bool) (g : FuncId) (caps : List D) (hl : l.length ≤ 4000000) (hso : ∀ (i : Nat) (x : Int) (h : Hp), l[i]? = some x → VC Try.prog g ([I i, I x] ++ D.vs caps) h (B (p i x)) h) (h : Hp) :
    VC Try.prog 56 [ints l, .func (.func g) [] (D.vs caps)] h (B (eachS p 0 l)) h := by
  refine VC.body Try.func56 rfl Try.ntmps56 Try.call56 (h.grows_refl) rfl ?_; conv => whnf
  rw [rens_dvs]
  refine VCode.lp (fun k : Nat => [(1, .func (.func g) [] (D.vs caps)), (4, B false), (7, ints l), (8, I l.length), (9, I k)]) (fun _ => []) (fun k => k ≤ l.length ∧ eachS p 0 l = eachS p k (l.drop k)) (fun k => l.length - k) 0 (by simp) ?_ ?_
  · conv => whnf
    refine Retell.turn ⟨[], 0, [], []⟩ (TurnOk.mk' _ _ [] [] (OutOk.lift _) rfl (by decide) zb trivial trivial rfl) zv zm
  · rintro k ⟨h1, h2⟩
    conv => whnf
    refine VIte.dec (fun h3 => ?_) (fun h3 => ?_)
    · have hk : l[k]? = some l[k] := List.getElem?_eq_getElem (by omega)
      rw [List.drop_eq_getElem_cons (by omega)] at h2
      generalize l[k] = x at hk h2
      simp only [eachS] at h2
      conv => whnf
      refine VAny.ix encI_len k rfl rfl hk ?_
      conv => whnf
      repeat (first | ((first | refine zs1 ?_ | refine zs2 ?_ | refine zs3 ?_ | refine zs4 ?_ | refine zs5 ?_ | refine zs6 [] ?_); conv => whnf))
      refine VCall.intro (hso k x _ hk) ?_
      conv => whnf
      cases hp : p k x
      · conv => whnf
        refine VOut.same ?_
        simp [V.ren, h2, hp]
      · conv => whnf
        repeat (first | ((first | refine zs1 ?_ | refine zs2 ?_ | refine zs3 ?_ | refine zs4 ?_ | refine zs5 ?_ | refine zs6 [] ?_); conv => whnf))
        refine LEnd.intro (k + 1) ⟨by omega, by simpa [hp] using h2⟩ (by omega) ?_
        conv => whnf
        refine Retell.turn ⟨[], 0, [], []⟩ (TurnOk.mk' _ _ [] [] (OutOk.lift _) rfl (by decide) zb trivial trivial rfl) zv zm
    · conv => whnf
      refine VOut.same ?_
      rw [List.drop_of_length_le (by omega), eachS] at h2
      simp [V.ren, h2]
theorem eachS_holds (ps : List Pap) : ∀ (t : List Int) (k : Nat), k + t.length ≤ ps.length → eachS (fun i y => match ps[i]? with | some p => decide (p.lo ≤ y ∧ y ≤ p.hi) | none => false) k t = holdsS (ps.drop k) t
  | [], k, _ => by cases h : ps.drop k <;> simp [eachS, holdsS]
  | y :: t, k, hk => by
    have hlt : k < ps.length := by simp at hk; omega
    rw [List.drop_eq_getElem_cons hlt, eachS, holdsS, List.getElem?_eq_getElem hlt, eachS_holds ps t (k + 1) (by simp at hk; omega)]
theorem vc_holds (f : Fil) (t : List Int) (h : Hp) (hl : t.length ≤ 4000000) (ht : t.length ≤ f.ps.length) : VC Try.prog 35 [vF f, ints t] h (B (holdsS f.ps t)) h := by
  refine VC.body Try.func35 rfl Try.ntmps35 Try.call35 (h.grows_refl) rfl ?_; conv => whnf
  refine VCall.intro (VC.give (args' := [ints t, .func (.func 65) [] [.fp (encF f)]]) (loc' := [.dead]) [(0, encF f)] [] (OutOk.lift _) zb zf (by exact FmAll.nil) rfl zv (vc_each t (fun i y => match f.ps[i]? with | some p => decide (p.lo ≤ y ∧ y ≤ p.hi) | none => false) 65 [.pt (encF f)] hl ?_ _)) ?_
  · intro i x h hx
    obtain ⟨hlt, _⟩ := List.getElem?_eq_some_iff.1 hx
    have hp : f.ps[i]? = some f.ps[i] := List.getElem?_eq_getElem (by omega)
    rw [hp]
    exact vc_holds1 f _ i x h hp
  conv => whnf
  refine VOut.same ?_
  rw [eachS_holds _ _ 0 (by omega)]
  simp [V.ren]
end Go.Proofs.Ytaodhdpopklipaa

open Go.Vm
namespace Go.Proofs.Ytaodhdpopklipaa
set_option maxRecDepth 20000
set_option maxHeartbeats 1000000
def hldB (f : Fil) (t : List Int) : Bool := if chk f = 0 ∧ t.length = f.ps.length then holdsS f.ps t else false
def hldE (f : Fil) (t : List Int) : Int := if chk f ≠ 0 then chk f else if t.length ≠ f.ps.length then 3 else 0
def toldE (f : Fil) (t : List Int) : Int := if hldE f t = 0 ∧ hldB f t = false then 9 else hldE f t
def encDk (f : Fil) (t : List Int) : List D := [DI f.Y, DI f.G, .sl 3 f.ps.length (f.ps.flatMap encP), dints t]
theorem vc_begun (f : Fil) (t : List Int) (h : Hp) (hn : f.ps.length ≤ 4000000) (hl : t.length ≤ 4000000) : VC Try.prog 16 [vF f, ints t] h (.tuple [if toldE f t = 0 then .fp (encDk f t) else .nilptr, I (toldE f t)]) h := by
  refine VC.body Try.func16 rfl Try.ntmps16 Try.call16 (h.grows_refl) rfl ?_; conv => whnf
  repeat' (first | ((first | refine zs1 ?_ | refine zs2 ?_ | refine zs3 ?_ | refine zs4 ?_ | refine zs5 ?_ | refine zs6 [] ?_); conv => whnf) | ((first | apply zi1 | apply zi2 | apply zi3 | apply zi4 | apply zi5) <;> intro _ <;> conv => whnf) | (refine VCall.intro (vc_check _ _ hn) ?_; conv => whnf))
  · refine VOut.same ?_; simp_all [V.ren, V.rens, toldE, hldE]
  · refine VOut.same ?_
    have : ¬ t.length = f.ps.length := by omega
    simp_all [V.ren, V.rens, toldE, hldE]
  · refine VCall.intro (vc_holds f t _ hl (by omega)) ?_
    have : t.length = f.ps.length := by omega
    conv => whnf
    cases hb : holdsS f.ps t
    · conv => whnf
      refine VOut.same ?_
      simp_all [V.ren, V.rens, toldE, hldE, hldB]
    · conv => whnf
      have h0 : toldE f t = 0 := by simp_all [toldE, hldE, hldB]
      rw [h0, if_pos rfl]
      repeat (first | ((first | refine zs1 ?_ | refine zs2 ?_ | refine zs3 ?_ | refine zs4 ?_ | refine zs5 ?_ | refine zs6 [] ?_); conv => whnf))
      refine VOut.data 2 [(1, encDk f t)] [] rfl zf (by exact FmAll.nil) zv
theorem chkGo_zero : ∀ {ps : List Pap} {last : Int}, chkGo ps last = 0 → ∀ p ∈ ps, ¬ badPap p
  | [], _, _, p, hp => by cases hp
  | q :: ps, last, h, p, hp => by
    rw [chkGo] at h
    split at h
    · cases h
    · rename_i hb
      split at h
      · cases h
      · rcases List.mem_cons.1 hp with rfl | hp
        · exact hb
        · exact chkGo_zero h p hp
theorem chk_zero {f : Fil} (h : chk f = 0) : (1 ≤ f.Y ∧ f.Y ≤ 500) ∧ (1 ≤ f.G ∧ f.G ≤ 200) ∧ f.ps.length ≤ 16 ∧ chkGo f.ps (-1) = 0 := by
  unfold chk at h
  split at h
  · cases h
  · split at h
    · cases h
    · exact ⟨by omega, by omega, by omega, h⟩
theorem holdsS_get : ∀ {ps : List Pap} {t : List Int} {k : Nat} {p : Pap} {y : Int}, holdsS ps t = true → ps[k]? = some p → t[k]? = some y → p.lo ≤ y ∧ y ≤ p.hi
  | [], _, _, _, _, _, h, _ => by simp at h
  | _ :: _, [], _, _, _, _, _, h => by simp at h
  | q :: ps, x :: t, k, p, y, h, hp, hy => by
    simp only [holdsS, Bool.and_eq_true, decide_eq_true_eq] at h
    cases k with
    | zero => simp at hp hy; subst hp hy; exact h.1
    | succ k => exact holdsS_get h.2 (by simpa using hp) (by simpa using hy)
structure Okt (f : Fil) (t : List Int) : Prop where
  y : 1 ≤ f.Y ∧ f.Y ≤ 500
  g : 1 ≤ f.G ∧ f.G ≤ 200
  n : f.ps.length ≤ 16
  len : t.length = f.ps.length
  go : chkGo f.ps (-1) = 0
  hold : holdsS f.ps t = true
theorem told_ok {f : Fil} {t : List Int} (h : toldE f t = 0) : Okt f t := by
  have h1 : chk f = 0 := by
    by_cases hc : chk f = 0
    · exact hc
    · simp [toldE, hldE, hc] at h
  have h2 : t.length = f.ps.length := by
    by_cases hc : t.length = f.ps.length
    · exact hc
    · simp [toldE, hldE, h1, hc] at h
  obtain ⟨a, b, c, d⟩ := chk_zero h1
  refine ⟨a, b, c, h2, d, ?_⟩
  cases hb : holdsS f.ps t
  · simp [toldE, hldE, hldB, h1, h2, hb] at h
  · rfl
theorem Okt.yr {f : Fil} {t : List Int} (o : Okt f t) {k : Nat} {y : Int} (hy : t[k]? = some y) : 0 ≤ y ∧ y ≤ 3000 := by
  obtain ⟨hlt, _⟩ := List.getElem?_eq_some_iff.1 hy
  have hlt' : k < f.ps.length := by rw [← o.len]; exact hlt
  have hp : f.ps[k]? = some f.ps[k] := List.getElem?_eq_getElem hlt'
  have h1 := holdsS_get o.hold hp hy
  have h2 := chkGo_zero o.go _ (List.mem_of_getElem? hp)
  unfold badPap at h2
  omega
def sdAt (f : Fil) (i : Nat) : Int := match f.ps[i]? with
  | some p => p.side
  | none => 0
def tAt (t : List Int) (i : Nat) : Int := t.getD i 0
theorem tAt_eq {t : List Int} {i : Nat} {y : Int} (h : t[i]? = some y) : tAt t i = y := by simp [tAt, h]
theorem sdAt_eq {f : Fil} {i : Nat} {p : Pap} (h : f.ps[i]? = some p) : sdAt f i = p.side := by simp [sdAt, h]
theorem vc_goes (f : Fil) (i : Nat) (y a : Int) (h : Hp) (hi : i < f.ps.length) (hn : f.ps.length ≤ 4000000) (hy : -1000000 ≤ y ∧ y ≤ 1000000) (ha : -1000000 ≤ a ∧ a ≤ 1000000) :
    VC Try.prog 39 [vF f, I i, I y, I a] h (B (decide (0 < i ∧ sdAt f i = sdAt f (i - 1) ∧ y - a ≤ f.G))) h := by
  have hp : f.ps[i]? = some f.ps[i] := List.getElem?_eq_getElem hi
  have hq : f.ps[i - 1]? = some f.ps[i - 1] := List.getElem?_eq_getElem (by omega)
  rw [sdAt_eq hp, sdAt_eq hq]
  generalize f.ps[i] = p at hp
  generalize f.ps[i - 1] = q at hq
  refine VC.body Try.func39 rfl Try.ntmps39 Try.call39 (h.grows_refl) rfl ?_; conv => whnf
  repeat' (first | ((first | refine zs1 ?_ | refine zs2 ?_ | refine zs3 ?_ | refine zs4 ?_ | refine zs5 ?_ | refine zs6 [] ?_); conv => whnf) | ((first | apply zi1 | apply zi2 | apply zi3 | apply zi4 | apply zi5) <;> intro _ <;> conv => whnf) | (refine VAny.ix encP_len i rfl rfl hp ?_; conv => whnf) | (refine VAny.ix encP_len (i - 1) (by omega) rfl hq ?_; conv => whnf))
  all_goals (refine VOut.dec ?_; first | (simp only [decide_eq_true_eq]; omega) | (simp; omega) | (simp; done))
def bgB (f : Fil) (t : List Int) (i : Nat) : Bool := decide (i = 0 ∨ sdAt f i ≠ sdAt f (i - 1) ∨ f.G < tAt t i - tAt t (i - 1))
def fst (f : Fil) (t : List Int) : Nat → Nat
  | 0 => 0
  | i + 1 => if bgB f t (i + 1) then i + 1 else fst f t i
theorem fst_le (f : Fil) (t : List Int) : ∀ i, fst f t i ≤ i
  | 0 => Nat.le_refl _
  | i + 1 => by
    rw [fst]
    split
    · exact Nat.le_refl _
    · exact Nat.le_succ_of_le (fst_le f t i)
def arB (f : Fil) (t : List Int) (i : Nat) : Bool := decide (f.Y ≤ tAt t i - tAt t (fst f t i) ∧ tAt t (i - 1) - tAt t (fst f t i) < f.Y)
end Go.Proofs.Ytaodhdpopklipaa

open Go.Vm
namespace Go.Proofs.Ytaodhdpopklipaa
set_option maxRecDepth 20000
set_option maxHeartbeats 1000000

def chS (f : Fil) (t : List Int) : Nat → List Spn
  | 0 => []
  | k + 1 => if bgB f t k then chS f t k ++ [⟨k, k⟩] else match (chS f t k)[(chS f t k).length - 1]? with
    | some s => (chS f t k).set ((chS f t k).length - 1) ⟨s.lo, k⟩
    | none => []
theorem bg0 (f : Fil) (t : List Int) : bgB f t 0 = true := by simp [bgB]
theorem chS_len (f : Fil) (t : List Int) : ∀ k, 0 < (chS f t (k + 1)).length ∧ (chS f t (k + 1)).length ≤ k + 1
  | 0 => by simp [chS, bg0]
  | k + 1 => by
    have ih := chS_len f t k
    rw [chS]
    split
    · simp; omega
    · split
      · simp; omega
      · rename_i h; rw [List.getElem?_eq_none_iff] at h; omega
theorem chS_le (f : Fil) (t : List Int) (k : Nat) : (chS f t k).length ≤ k ∧ (0 < k → 0 < (chS f t k).length) := by
  cases k with
  | zero => simp [chS]
  | succ k => have := chS_len f t k; exact ⟨this.2, fun _ => this.1⟩
theorem vc_begin (l : List Spn) (i : Nat) (ib il : Vm.Id) (h : Hp) (hne : ib ≠ il) (hb : h.get ib = some (.cells true [.gl il 2 l.length])) (hl : h.get il = some (.flat true (l.flatMap encS))) (hn : l.length ≤ 4000000) :
    VC Try.prog 73 [I i, .ptr ib 0] h (.tuple []) ((h.sets [(il, .dead), (ib, .cells true [.gl h.fresh 2 (l.length + 1)])]).pushes [.flat true ((l ++ [Spn.mk i i]).flatMap encS)]) := by
  have hd : ∀ p ∈ [(il, Blk.dead), (ib, Blk.cells true [V.gl h.fresh 2 (l.length + 1)])], h.get p.1 ≠ none := by
    intro p hp
    simp only [List.mem_cons, List.not_mem_nil, or_false] at hp
    rcases hp with rfl | rfl
    · simp only; rw [hl]; simp
    · simp only; rw [hb]; simp
  refine VC.body Try.func73 rfl Try.ntmps73 Try.call73 (Hp.grows_sets hd) rfl ?_; conv => whnf
  refine VLd.cell rfl rfl (get_out hb _) rfl ?_
  conv => whnf
  refine VMem.app1 (Spn.mk i i) encS_len rfl (get_out hl _) rfl rfl rfl (by omega) ?_
  conv => whnf
  refine VMem.st1 rfl rfl rfl (b := .cells true [.gl (.out il) 2 l.length]) (by show (if ib = il then some Blk.dead else h.lift ib) = _; rw [if_neg hne]; exact get_out hb []) rfl ?_
  conv => whnf
  refine VOut.upd [(il, .dead), (ib, .cells true [.gl h.fresh 2 (l.length + 1)])] [.flat true ((l ++ [Spn.mk i i]).flatMap encS)] [1] 2 ?_ hd ?_ ?_ ?_ ?_ ?_
  · rfl
  · decide
  · rfl
  · intro k b hk
    cases k with
    | zero => rw [List.getElem?_cons_zero, Option.some.injEq] at hk; subst hk; exact ⟨1, rfl, rfl⟩
    | succ k => simp at hk
  · intro σ x hx; exact hx
  · have : (Blk.cells true [V.gl h.fresh 2 (l.length + 1)]).ren (backR h.loc.length [1] 2) = .cells true [.gl (.loc 1) 2 (l.length + 1)] := by simp [Blk.ren, V.ren, backR, Hp.fresh]
    simp only [List.map_cons, List.map_nil, this]
    rfl
theorem vc_chains (f : Fil) (t : List Int) (h : Hp) (o : Okt f t) : VC Try.prog 64 [.fp (encDk f t)] h (spans (chS f t t.length)) h := by
  have hn := o.n
  have hlen := o.len
  refine VC.body Try.func64 rfl Try.ntmps64 Try.call64 (h.grows_refl) rfl ?_; conv => whnf
  repeat (first | ((first | refine zs1 ?_ | refine zs2 ?_ | refine zs3 ?_ | refine zs4 ?_ | refine zs5 ?_ | refine zs6 [] ?_); conv => whnf))
  refine VCode.lp (fun k : Nat => [(0, .fp (encDk f t)), (3, .func (.func 39) [vF f] []), (4, .ptr (.loc 0) 0), (5, .func (.func 73) [] [.ptr (.loc 0) 0]), (17, ints t), (18, I t.length), (19, I k)])
    (fun k => [.cells true [.gl (.loc 1) 2 (chS f t k).length], .flat true ((chS f t k).flatMap encS)]) (fun k => k ≤ t.length) (fun k => t.length - k) 0 (Nat.zero_le _) ?_ ?_
  · conv => whnf
    refine Retell.turn ⟨[0,1], 1, [], []⟩ (TurnOk.mk' _ _ [] [] (OutOk.lift _) rfl (by decide) zb trivial trivial rfl) zv zm
  · intro k hk
    conv => whnf
    refine VIte.dec (fun h3 => ?_) (fun h3 => ?_)
    · have hy : t[k]? = some t[k] := List.getElem?_eq_getElem (by omega)
      have hz : t[k - 1]? = some t[k - 1] := List.getElem?_eq_getElem (by omega)
      have b1 := o.yr hy
      have b2 := o.yr hz
      have e1 := tAt_eq hy
      have e2 := tAt_eq hz
      have hcl := chS_le f t k
      generalize t[k] = y at hy b1 e1
      generalize t[k - 1] = z at hz b2 e2
      have hbg : bgB f t k = decide (k = 0 ∨ sdAt f k ≠ sdAt f (k - 1) ∨ f.G < y - z) := by rw [bgB, e1, e2]
      conv => whnf
      repeat' (first | ((first | refine zs1 ?_ | refine zs2 ?_ | refine zs3 ?_ | refine zs4 ?_ | refine zs5 ?_ | refine zs6 [] ?_); conv => whnf) | ((first | apply zi1 | apply zi2 | apply zi3 | apply zi4 | apply zi5) <;> intro _ <;> conv => whnf) | (refine VAny.ix encI_len k rfl rfl hy ?_; conv => whnf) | (refine VAny.ix encI_len (k - 1) (by omega) rfl hz ?_; conv => whnf) | (refine VCall.intro (vc_goes f k y z _ (by omega) (by omega) (by omega) (by omega)) ?_; conv => whnf))
      · rw [decide_eq_false (by omega)] at hbg
        have hs : (chS f t k)[(chS f t k).length - 1]? = some (chS f t k)[(chS f t k).length - 1] := List.getElem?_eq_getElem (by omega)
        generalize (chS f t k)[(chS f t k).length - 1] = s at hs
        have h9 : ((↑(chS f t k).length : Int) - 1).toNat = (chS f t k).length - 1 := by omega
        refine VMem.setRec encS_len ((chS f t k).length - 1) 1 (Spn.mk s.lo k) rfl rfl rfl hs (by decide) rfl (by rw [h9]) ?_
        conv => whnf
        repeat (first | ((first | refine zs1 ?_ | refine zs2 ?_ | refine zs3 ?_ | refine zs4 ?_ | refine zs5 ?_ | refine zs6 [] ?_); conv => whnf))
        have hc : chS f t (k + 1) = (chS f t k).set ((chS f t k).length - 1) ⟨s.lo, k⟩ := by rw [chS, hbg, hs]; rfl
        refine LEnd.intro (k + 1) (by omega) (by omega) ?_
        conv => whnf
        rw [hc, List.length_set]
        refine Retell.turn ⟨[0,1], 2, [], []⟩ (TurnOk.mk' _ _ [] [] (OutOk.lift _) rfl (by decide) zb trivial trivial rfl) zv zm
      all_goals (
        rw [decide_eq_true (by omega)] at hbg
        refine VCall.intro (vc_begin (chS f t k) k (.loc 0) (.loc 1) _ (by decide) rfl rfl (by omega)) ?_
        conv => whnf
        repeat (first | ((first | refine zs1 ?_ | refine zs2 ?_ | refine zs3 ?_ | refine zs4 ?_ | refine zs5 ?_ | refine zs6 [] ?_); conv => whnf))
        have hc : chS f t (k + 1) = chS f t k ++ [⟨k, k⟩] := by rw [chS, hbg]; rfl
        refine LEnd.intro (k + 1) (by omega) (by omega) ?_
        conv => whnf
        rw [hc, List.length_append]
        refine Retell.turn ⟨[0,2], 3, [], []⟩ (TurnOk.mk' _ _ [] [] (OutOk.lift _) rfl (by decide) zb trivial trivial rfl) zv zm)
    · conv => whnf
      have hk' : k = t.length := by omega
      subst hk'
      repeat (first | ((first | refine zs1 ?_ | refine zs2 ?_ | refine zs3 ?_ | refine zs4 ?_ | refine zs5 ?_ | refine zs6 [] ?_); conv => whnf))
      refine VOut.data 2 [(1, (chS f t t.length).flatMap encS)] [] rfl zf (by exact FmAll.nil) zv
def chkChain (Y : Int) (t : List Int) (z hi : Int) (p : Nat) : Nat → Nat → Option Bool
  | 0, _ => none
  | n + 1, i => if (i : Int) ≤ hi then (if Y ≤ tAt t i - z then some (decide (i = p)) else chkChain Y t z hi p n (i + 1)) else none
def chainS (Y : Int) (t : List Int) (p : Nat) : List Spn → Option Spn
  | [] => none
  | s :: r => bif chkChain Y t (tAt t s.lo.toNat) s.hi p (t.length + 1) s.lo.toNat == some true then some s else chainS Y t p r
theorem vc_chain (f : Fil) (t : List Int) (p : Nat) (h : Hp) (o : Okt f t) (hc : ∀ s ∈ chS f t t.length, 0 ≤ s.lo ∧ s.lo ≤ s.hi ∧ s.hi < t.length) : VC Try.prog 36 [.fp (encDk f t), I p] h (match chainS f.Y t p (chS f t t.length) with | some s => .tuple [.agg [I s.lo, I s.hi], B true] | none => .tuple [.agg [I 0, I 0], B false]) h := by
  have hn := o.n
  have hlen := o.len
  have hY := o.y
  have hcl := chS_le f t t.length
  generalize hL : chS f t t.length = L at hc hcl
  refine VC.body Try.func36 rfl Try.ntmps36 Try.call36 (h.grows_refl) rfl ?_; conv => whnf
  refine VCall.intro (vc_chains f t _ o) ?_
  rw [hL]
  conv => whnf
  refine VCode.lp (fun k : Nat => [(0, .fp (encDk f t)), (1, I p), (4, .ptr (.loc 0) 0), (5, B false), (10, spans L), (11, I L.length), (12, I k)]) (fun _ => [.flat true [DI 0, DI 0]]) (fun k => k ≤ L.length ∧ chainS f.Y t p L = chainS f.Y t p (L.drop k)) (fun k => L.length - k) 0 ⟨Nat.zero_le _, rfl⟩ ?_ ?_
  · conv => whnf
    refine Retell.turn ⟨[0], 1, [], []⟩ (TurnOk.mk' _ _ [] [] (OutOk.lift _) rfl (by decide) zb trivial trivial rfl) zv zm
  · rintro k ⟨h1, h2⟩
    conv => whnf
    refine VIte.dec (fun h3 => ?_) (fun h3 => ?_)
    · have hs : L[k]? = some L[k] := List.getElem?_eq_getElem (by omega)
      have hcs := hc L[k] (List.getElem_mem (by omega))
      rw [List.drop_eq_getElem_cons (by omega)] at h2
      generalize L[k] = s at hs hcs h2
      obtain ⟨lo, hi⟩ := s
      simp only at hcs
      obtain ⟨lo, rfl⟩ : ∃ m : Nat, lo = m := ⟨lo.toNat, by omega⟩
      obtain ⟨hi, rfl⟩ : ∃ m : Nat, hi = m := ⟨hi.toNat, by omega⟩
      conv => whnf
      repeat' (first | ((first | refine zs1 ?_ | refine zs2 ?_ | refine zs3 ?_ | refine zs4 ?_ | refine zs5 ?_ | refine zs6 [] ?_); conv => whnf) | ((first | apply zi1 | apply zi2 | apply zi3 | apply zi4 | apply zi5) <;> intro _ <;> conv => whnf) | (refine VAny.ix encS_len k rfl rfl hs ?_; conv => whnf))
      rw [chainS] at h2
      have hz : t[lo]? = some t[lo] := List.getElem?_eq_getElem (by omega)
      have b2 := o.yr hz
      have e2 := tAt_eq hz
      generalize t[lo] = z at hz b2 e2
      simp only [Int.toNat_natCast, e2] at h2
      obtain ⟨C, hC⟩ : ∃ C, C = chkChain f.Y t z hi p (t.length + 1) lo := ⟨_, rfl⟩
      rw [← hC] at h2
      refine VCode.lp (fun j : Nat => [(0, .fp (encDk f t)), (1, I p), (4, .ptr (.loc 0) 0), (5, B false), (7, .ptr (.loc 1) 0), (8, I j), (10, spans L), (11, I L.length), (12, I k)]) (fun _ => [.flat true [DI 0, DI 0], .flat true [DI lo, DI hi]])
        (fun j => lo ≤ j ∧ j ≤ hi + 1 ∧ C = chkChain f.Y t z hi p (t.length + 1 - (j - lo)) j) (fun j => hi + 1 - j) lo ⟨Nat.le_refl _, by omega, by rw [Nat.sub_self]; exact hC⟩ ?_ ?_
      · conv => whnf
        refine Retell.turn ⟨[0,1], 2, [], []⟩ (TurnOk.mk' _ _ [] [] (OutOk.lift _) rfl (by decide) zb trivial trivial rfl) zv zm
      · rintro j ⟨g1, g2, g3⟩
        obtain ⟨m, hm⟩ : ∃ m, t.length + 1 - (j - lo) = m + 1 := ⟨t.length - (j - lo), by omega⟩
        rw [hm, chkChain] at g3
        conv => whnf
        repeat (first | ((first | refine zs1 ?_ | refine zs2 ?_ | refine zs3 ?_ | refine zs4 ?_ | refine zs5 ?_ | refine zs6 [] ?_); conv => whnf))
        refine VIte.dec (fun h4 => ?_) (fun h4 => ?_)
        · have hy : t[j]? = some t[j] := List.getElem?_eq_getElem (by omega)
          have b1 := o.yr hy
          have e1 := tAt_eq hy
          rw [if_pos h4, e1] at g3
          generalize t[j] = y at hy b1 e1 g3
          conv => whnf
          repeat' (first | ((first | refine zs1 ?_ | refine zs2 ?_ | refine zs3 ?_ | refine zs4 ?_ | refine zs5 ?_ | refine zs6 [] ?_); conv => whnf) | ((first | apply zi1 | apply zi2 | apply zi3 | apply zi4 | apply zi5) <;> intro _ <;> conv => whnf) | (refine VAny.ix encI_len j rfl rfl hy ?_; conv => whnf) | (refine VAny.ix encI_len lo rfl rfl hz ?_; conv => whnf))
          · rw [if_pos (by omega), decide_eq_true (by omega)] at g3
            rw [g3, beq_self_eq_true, cond_true] at h2
            rw [h2]
            refine VOut.data 2 [] [] rfl zf (by exact FmAll.nil) zv
          · rw [if_pos (by omega), decide_eq_false (by omega)] at g3
            rw [g3] at h2
            change _ = chainS _ _ _ _ at h2
            refine LEnd.intro (k + 1) ⟨by omega, h2⟩ (by omega) ?_
            conv => whnf
            refine Retell.turn ⟨[0], 2, [], []⟩ (TurnOk.mk' _ _ [] [] (OutOk.lift _) rfl (by decide) zb trivial trivial rfl) zv zm
          · rw [if_neg (by omega)] at g3
            refine LEnd.intro (j + 1) ⟨by omega, by omega, by rw [g3]; congr 1; omega⟩ (by omega) ?_
            conv => whnf
            refine Retell.turn ⟨[0,1], 2, [], []⟩ (TurnOk.mk' _ _ [] [] (OutOk.lift _) rfl (by decide) zb trivial trivial rfl) zv zm
        · rw [if_neg h4] at g3
          rw [g3] at h2
          change _ = chainS _ _ _ _ at h2
          conv => whnf
          repeat (first | ((first | refine zs1 ?_ | refine zs2 ?_ | refine zs3 ?_ | refine zs4 ?_ | refine zs5 ?_ | refine zs6 [] ?_); conv => whnf))
          refine LEnd.intro (k + 1) ⟨by omega, h2⟩ (by omega) ?_
          conv => whnf
          refine Retell.turn ⟨[0], 2, [], []⟩ (TurnOk.mk' _ _ [] [] (OutOk.lift _) rfl (by decide) zb trivial trivial rfl) zv zm
    · conv => whnf
      rw [List.drop_of_length_le (by omega), chainS] at h2
      rw [h2]
      repeat (first | ((first | refine zs1 ?_ | refine zs2 ?_ | refine zs3 ?_ | refine zs4 ?_ | refine zs5 ?_ | refine zs6 [] ?_); conv => whnf))
      refine VOut.data 1 [] [] rfl zf (by exact FmAll.nil) zv
end Go.Proofs.Ytaodhdpopklipaa

open Go.Vm
namespace Go.Proofs.Ytaodhdpopklipaa
set_option maxRecDepth 20000
set_option maxHeartbeats 1000000

def chn (f : Fil) (t : List Int) (p : Nat) : Option Spn := chainS f.Y t p (chS f t t.length)
def Segs (f : Fil) (t : List Int) : List Spn → Nat → Nat → Prop
  | [], a, k => a = k
  | s :: r, a, k => ∃ hi : Nat, s = ⟨a, hi⟩ ∧ a ≤ hi ∧ hi < k ∧ bgB f t a = true ∧ (∀ j, a < j → j ≤ hi → bgB f t j = false) ∧ Segs f t r (hi + 1) k
theorem Segs.snoc {f : Fil} {t : List Int} : ∀ {L : List Spn} {a k : Nat}, Segs f t L a k → bgB f t k = true → Segs f t (L ++ [⟨k, k⟩]) a (k + 1)
  | [], a, k, h, hb => by
    simp only [Segs] at h; subst h
    exact ⟨a, rfl, Nat.le_refl _, Nat.lt_succ_self _, hb, fun j h1 h2 => by omega, rfl⟩
  | s :: r, a, k, h, hb => by
    obtain ⟨hi, h1, h2, h3, h4, h5, h6⟩ := h
    exact ⟨hi, h1, h2, by omega, h4, h5, Segs.snoc h6 hb⟩
theorem Segs.more {f : Fil} {t : List Int} : ∀ {L : List Spn} {a k : Nat} {s : Spn}, Segs f t L a k → bgB f t k = false → L[L.length - 1]? = some s → Segs f t (L.set (L.length - 1) ⟨s.lo, k⟩) a (k + 1)
  | [], a, k, s, h, hb, hs => by simp at hs
  | [x], a, k, s, h, hb, hs => by
    obtain ⟨hi, h1, h2, h3, h4, h5, h6⟩ := h
    simp only [Segs] at h6
    simp at hs; subst hs h1
    refine ⟨k, rfl, by omega, by omega, h4, fun j h7 h8 => ?_, rfl⟩
    rcases Nat.lt_or_ge hi j with h9 | h9
    · have : j = k := by omega
      subst this; exact hb
    · exact h5 j h7 h9
  | x :: y :: r, a, k, s, h, hb, hs => by
    obtain ⟨hi, h1, h2, h3, h4, h5, h6⟩ := h
    refine ⟨hi, h1, h2, by omega, h4, h5, ?_⟩
    have := Segs.more (s := s) h6 hb (by simpa using hs)
    simpa using this
theorem chS_segs (f : Fil) (t : List Int) : ∀ k, Segs f t (chS f t k) 0 k
  | 0 => rfl
  | k + 1 => by
    have ih := chS_segs f t k
    rw [chS]
    split
    · rename_i hb; exact ih.snoc hb
    · rename_i hb
      split
      · rename_i s hs; exact ih.more (by simpa using hb) hs
      · rename_i hs
        have := chS_le f t k
        rw [List.getElem?_eq_none_iff] at hs
        have h0 : k = 0 := by omega
        subst h0; simp [bg0] at hb
theorem Segs.bnd {f : Fil} {t : List Int} : ∀ {L : List Spn} {a k : Nat}, Segs f t L a k → ∀ s ∈ L, 0 ≤ s.lo ∧ s.lo ≤ s.hi ∧ s.hi < k
  | [], _, _, _, s, hs => by cases hs
  | x :: r, a, k, h, s, hs => by
    obtain ⟨hi, rfl, h2, h3, h4, h5, h6⟩ := h
    rcases List.mem_cons.1 hs with rfl | hs
    · simp only; omega
    · exact Segs.bnd h6 s hs
theorem Segs.begin {f : Fil} {t : List Int} : ∀ {L : List Spn} {a k : Nat}, Segs f t L a k → a < k → bgB f t a = true
  | [], a, k, h, hk => by simp only [Segs] at h; omega
  | s :: r, a, k, h, hk => by obtain ⟨hi, _, _, _, h4, _⟩ := h; exact h4
theorem chS_bnd (f : Fil) (t : List Int) : ∀ s ∈ chS f t t.length, 0 ≤ s.lo ∧ s.lo ≤ s.hi ∧ s.hi < t.length := (chS_segs f t t.length).bnd
theorem fst_seg {f : Fil} {t : List Int} {a hi : Nat} (hb : bgB f t a = true) (hn : ∀ j, a < j → j ≤ hi → bgB f t j = false) : ∀ j, a ≤ j → j ≤ hi → fst f t j = a
  | 0, h1, _ => by have : a = 0 := by omega
                   rw [fst]; exact this.symm
  | j + 1, h1, h2 => by
    rcases Nat.eq_or_lt_of_le h1 with h3 | h3
    · subst h3; rw [fst, hb]; rfl
    · rw [fst, hn (j + 1) h3 h2]
      exact fst_seg hb hn j (by omega) (by omega)
theorem Okt.next {f : Fil} {t : List Int} (o : Okt f t) {k : Nat} (hk : k + 1 < t.length) : tAt t k < tAt t (k + 1) := by
  have key : ∀ (ps : List Pap) (last : Int) (k : Nat) (p q : Pap), chkGo ps last = 0 → ps[k]? = some p → ps[k + 1]? = some q → p.hi < q.lo := by
    intro ps
    induction ps with
    | nil => intro last k p q _ h; simp at h
    | cons x r ih =>
      intro last k p q hc hp hq
      rw [chkGo] at hc
      split at hc
      · cases hc
      · split at hc
        · cases hc
        · cases k with
          | zero =>
            simp at hp hq; subst hp
            cases r with
            | nil => simp at hq
            | cons y r =>
              simp at hq; subst hq
              rw [chkGo] at hc
              split at hc
              · cases hc
              · split at hc
                · cases hc
                · omega
          | succ k => exact ih x.hi k p q hc (by simpa using hp) (by simpa using hq)
  have hlen := o.len
  have hp : f.ps[k]? = some f.ps[k] := List.getElem?_eq_getElem (by omega)
  have hq : f.ps[k + 1]? = some f.ps[k + 1] := List.getElem?_eq_getElem (by omega)
  have hy : t[k]? = some t[k] := List.getElem?_eq_getElem (by omega)
  have hz : t[k + 1]? = some t[k + 1] := List.getElem?_eq_getElem hk
  have h1 := key _ _ _ _ _ o.go hp hq
  have h2 := holdsS_get o.hold hp hy
  have h3 := holdsS_get o.hold hq hz
  rw [tAt_eq hy, tAt_eq hz]
  omega
theorem Okt.mono {f : Fil} {t : List Int} (o : Okt f t) {a : Nat} : ∀ {b : Nat}, a < b → b < t.length → tAt t a < tAt t b
  | 0, h, _ => by omega
  | b + 1, h, hb => by
    rcases Nat.lt_or_ge a b with h1 | h1
    · have := o.mono h1 (by omega); have := o.next hb; omega
    · have : a = b := by omega
      subst this; exact o.next hb
theorem chkChain_eq {f : Fil} {t : List Int} {z : Int} {hi p : Nat} : ∀ (n i : Nat), hi + 1 - i < n →
    ((chkChain f.Y t z hi p n i == some true) = true ↔ (i ≤ p ∧ p ≤ hi ∧ f.Y ≤ tAt t p - z ∧ (∀ j, i ≤ j → j < p → tAt t j - z < f.Y)))
  | 0, i, hn => by omega
  | n + 1, i, hn => by
    rw [chkChain]
    split
    · rename_i h1
      split
      · rename_i h2
        by_cases h3 : i = p
        · subst h3
          rw [decide_eq_true rfl]
          exact ⟨fun _ => ⟨Nat.le_refl _, by omega, h2, fun j h4 h5 => by omega⟩, fun _ => rfl⟩
        · rw [decide_eq_false h3]
          constructor
          · intro h; cases h
          · rintro ⟨h4, h5, h6, h7⟩
            have := h7 i (Nat.le_refl _) (by omega)
            omega
      · rename_i h2
        rw [chkChain_eq n (i + 1) (by omega)]
        constructor
        · rintro ⟨h4, h5, h6, h7⟩
          refine ⟨by omega, h5, h6, fun j h8 h9 => ?_⟩
          rcases Nat.eq_or_lt_of_le h8 with h10 | h10
          · subst h10; omega
          · exact h7 j h10 h9
        · rintro ⟨h4, h5, h6, h7⟩
          refine ⟨?_, h5, h6, fun j h8 h9 => h7 j (by omega) h9⟩
          rcases Nat.eq_or_lt_of_le h4 with h10 | h10
          · subst h10; omega
          · exact h10
    · rename_i h1
      constructor
      · intro h; cases h
      · rintro ⟨h4, h5, _⟩
        omega
theorem chk_seg {f : Fil} {t : List Int} (o : Okt f t) {a hi p : Nat} (hah : a ≤ hi) (hlt : hi < t.length) (hb : bgB f t a = true) (hn : ∀ j, a < j → j ≤ hi → bgB f t j = false) :
    (chkChain f.Y t (tAt t a) hi p (t.length + 1) a == some true) = (decide (a ≤ p ∧ p ≤ hi) && arB f t p) := by
  have hY := o.y
  have mono : p ≤ hi → ∀ j, a ≤ j → j < p → tAt t j ≤ tAt t (p - 1) := by
    intro hp j h1 h2
    rcases Nat.lt_or_ge j (p - 1) with h3 | h3
    · exact Int.le_of_lt (o.mono h3 (by omega))
    · have : j = p - 1 := by omega
      subst this; exact Int.le_refl _
  rw [Bool.eq_iff_iff, chkChain_eq (t.length + 1) a (by omega), Bool.and_eq_true, decide_eq_true_eq]
  have har : a ≤ p → p ≤ hi → (arB f t p = true ↔ (f.Y ≤ tAt t p - tAt t a ∧ tAt t (p - 1) - tAt t a < f.Y)) := by
    intro h1 h2
    rw [arB, fst_seg hb hn p h1 h2, decide_eq_true_eq]
  constructor
  · rintro ⟨h1, h2, h3, h4⟩
    refine ⟨⟨h1, h2⟩, (har h1 h2).2 ⟨h3, ?_⟩⟩
    rcases Nat.eq_or_lt_of_le h1 with h5 | h5
    · subst h5; omega
    · exact h4 (p - 1) (by omega) (by omega)
  · rintro ⟨⟨h1, h2⟩, h3⟩
    obtain ⟨h3, h4⟩ := (har h1 h2).1 h3
    refine ⟨h1, h2, h3, fun j h5 h6 => ?_⟩
    have := mono h2 j h5 h6
    omega
theorem chainS_eq {f : Fil} {t : List Int} (o : Okt f t) {p : Nat} : ∀ {L : List Spn} {a : Nat}, Segs f t L a t.length →
    (chainS f.Y t p L = none ∧ (arB f t p = false ∨ p < a ∨ t.length ≤ p)) ∨ ∃ hi : Nat, chainS f.Y t p L = some ⟨fst f t p, hi⟩ ∧ arB f t p = true ∧ a ≤ fst f t p ∧ p ≤ hi ∧ hi < t.length ∧ bgB f t (fst f t p) = true ∧ (∀ j, fst f t p < j → j ≤ hi → bgB f t j = false) ∧ (hi + 1 < t.length → bgB f t (hi + 1) = true)
  | [], a, h => by
    simp only [Segs] at h
    left; exact ⟨rfl, by omega⟩
  | s :: r, a, h => by
    obtain ⟨hi, rfl, h2, h3, h4, h5, h6⟩ := h
    have hc := chk_seg (p := p) o h2 h3 h4 h5
    rw [chainS]
    simp only [Int.toNat_natCast]
    rw [hc]
    by_cases hp : a ≤ p ∧ p ≤ hi
    · rw [decide_eq_true hp, Bool.true_and]
      cases ha : arB f t p
      · rw [cond_false]
        rcases chainS_eq o h6 with h7 | ⟨hi', h7, h8, _⟩
        · left; exact ⟨h7.1, .inl rfl⟩
        · rw [ha] at h8; cases h8
      · rw [cond_true]
        right
        have hf := fst_seg h4 h5 p hp.1 hp.2
        rw [hf]
        exact ⟨hi, rfl, rfl, Nat.le_refl _, hp.2, h3, h4, h5, h6.begin⟩
    · rw [decide_eq_false hp, Bool.false_and, cond_false]
      rcases chainS_eq o h6 with ⟨h7, h8⟩ | ⟨hi', h7, h8, h9, h10⟩
      · left
        refine ⟨h7, ?_⟩
        rcases h8 with h8 | h8 | h8
        · exact .inl h8
        · right; left; omega
        · right; right; exact h8
      · right; exact ⟨hi', h7, h8, by omega, h10⟩
theorem chn_none {f : Fil} {t : List Int} (o : Okt f t) {p : Nat} (hp : p < t.length) (ha : arB f t p = false) : chn f t p = none := by
  rcases chainS_eq o (p := p) (chS_segs f t t.length) with ⟨h, _⟩ | ⟨_, _, h, _⟩
  · exact h
  · rw [ha] at h; cases h
theorem chn_some {f : Fil} {t : List Int} (o : Okt f t) {p : Nat} (hp : p < t.length) (ha : arB f t p = true) : ∃ hi : Nat, chn f t p = some ⟨fst f t p, hi⟩ ∧ p ≤ hi ∧ hi < t.length ∧ bgB f t (fst f t p) = true ∧ (∀ j, fst f t p < j → j ≤ hi → bgB f t j = false) ∧ (hi + 1 < t.length → bgB f t (hi + 1) = true) := by
  rcases chainS_eq o (p := p) (chS_segs f t t.length) with ⟨_, h⟩ | ⟨hi, h1, _, _, h⟩
  · rw [ha] at h
    rcases h with h | h | h
    · cases h
    · omega
    · omega
  · exact ⟨hi, h1, h⟩
def chnR : Option Spn → V
  | some s => .tuple [.agg [I s.lo, I s.hi], B true]
  | none => .tuple [.agg [I 0, I 0], B false]
theorem vc_chn (f : Fil) (t : List Int) (p : Nat) (h : Hp) (o : Okt f t) : VC Try.prog 36 [.fp (encDk f t), I p] h (chnR (chn f t p)) h := by
  have := vc_chain f t p h o (chS_bnd f t)
  unfold chnR chn
  exact this
def selS (q : Nat → Bool) : Nat → List Int
  | 0 => []
  | k + 1 => if q k then selS q k ++ [(k : Int)] else selS q k
theorem selS_len (q : Nat → Bool) : ∀ k, (selS q k).length ≤ k
  | 0 => Nat.le_refl _
  | k + 1 => by
    have := selS_len q k
    rw [selS]; split <;> simp <;> omega
def arL (f : Fil) (t : List Int) : List Int := selS (arB f t) t.length
theorem vc_darises (f : Fil) (t : List Int) (h : Hp) (o : Okt f t) : VC Try.prog 17 [.fp (encDk f t)] h (ints (arL f t)) h := by
  have hn := o.n
  have hlen := o.len
  unfold arL
  refine VC.body Try.func17 rfl Try.ntmps17 Try.call17 (h.grows_refl) rfl ?_; conv => whnf
  repeat (first | ((first | refine zs1 ?_ | refine zs2 ?_ | refine zs3 ?_ | refine zs4 ?_ | refine zs5 ?_ | refine zs6 [] ?_); conv => whnf))
  refine VCode.lp (fun k : Nat => [(0, .fp (encDk f t)), (3, .gl (.loc 0) 1 (selS (arB f t) k).length), (11, I t.length), (12, I k)]) (fun k => [.flat true ((selS (arB f t) k).flatMap encI)]) (fun k => k ≤ t.length) (fun k => t.length - k) 0 (Nat.zero_le _) ?_ ?_
  · conv => whnf
    refine Retell.turn ⟨[0], 0, [], []⟩ (TurnOk.mk' _ _ [] [] (OutOk.lift _) rfl (by decide) zb trivial trivial rfl) zv zm
  · intro k hk
    have hsl := selS_len (arB f t) k
    conv => whnf
    refine VIte.dec (fun h3 => ?_) (fun h3 => ?_)
    · conv => whnf
      repeat (first | ((first | refine zs1 ?_ | refine zs2 ?_ | refine zs3 ?_ | refine zs4 ?_ | refine zs5 ?_ | refine zs6 [] ?_); conv => whnf))
      refine VCall.intro (vc_chn f t k _ o) ?_
      cases ha : arB f t k
      · rw [chn_none o (by omega) ha]
        conv => whnf
        repeat (first | ((first | refine zs1 ?_ | refine zs2 ?_ | refine zs3 ?_ | refine zs4 ?_ | refine zs5 ?_ | refine zs6 [] ?_); conv => whnf))
        refine LEnd.intro (k + 1) (by omega) (by omega) ?_
        conv => whnf
        rw [selS, ha, if_neg (by simp)]
        refine Retell.turn ⟨[0], 2, [], []⟩ (TurnOk.mk' _ _ [] [] (OutOk.lift _) rfl (by decide) zb trivial trivial rfl) zv zm
      · obtain ⟨hi, hc, _⟩ := chn_some o (by omega) ha
        rw [hc]
        conv => whnf
        repeat (first | ((first | refine zs1 ?_ | refine zs2 ?_ | refine zs3 ?_ | refine zs4 ?_ | refine zs5 ?_ | refine zs6 [] ?_); conv => whnf))
        refine VMem.app1 (k : Int) encI_len rfl rfl rfl rfl rfl (by omega) ?_
        conv => whnf
        repeat (first | ((first | refine zs1 ?_ | refine zs2 ?_ | refine zs3 ?_ | refine zs4 ?_ | refine zs5 ?_ | refine zs6 [] ?_); conv => whnf))
        refine LEnd.intro (k + 1) (by omega) (by omega) ?_
        conv => whnf
        rw [selS, ha, if_pos rfl, List.length_append]
        refine Retell.turn ⟨[3], 4, [], []⟩ (TurnOk.mk' _ _ [] [] (OutOk.lift _) rfl (by decide) zb trivial trivial rfl) zv zm
    · conv => whnf
      have hk' : k = t.length := by omega
      subst hk'
      repeat (first | ((first | refine zs1 ?_ | refine zs2 ?_ | refine zs3 ?_ | refine zs4 ?_ | refine zs5 ?_ | refine zs6 [] ?_); conv => whnf))
      refine VOut.data 1 [(0, (selS (arB f t) t.length).flatMap encI)] [] rfl zf (by exact FmAll.nil) zv
end Go.Proofs.Ytaodhdpopklipaa

open Go.Vm
namespace Go.Proofs.Ytaodhdpopklipaa
set_option maxRecDepth 20000
set_option maxHeartbeats 1000000

theorem vc_begun_no (f : Fil) (t : List Int) (h : Hp) (hn : f.ps.length ≤ 4000000) (hl : t.length ≤ 4000000) (h0 : toldE f t ≠ 0) : VC Try.prog 16 [vF f, ints t] h (.tuple [.nilptr, I (toldE f t)]) h := by
  have := vc_begun f t h hn hl
  rw [if_neg h0] at this; exact this
theorem vc_begun_ok (f : Fil) (t : List Int) (h : Hp) (hn : f.ps.length ≤ 4000000) (hl : t.length ≤ 4000000) (h0 : toldE f t = 0) : VC Try.prog 16 [vF f, ints t] h (.tuple [.fp (encDk f t), I 0]) h := by
  have := vc_begun f t h hn hl
  rw [if_pos h0, h0] at this; exact this
theorem vc_Chains (f : Fil) (t : List Int) (h : Hp) (hn : f.ps.length ≤ 4000000) (hl : t.length ≤ 4000000) : VC Try.prog 33 [vF f, ints t] h (.tuple [if toldE f t = 0 then spans (chS f t t.length) else .nilslice, I (toldE f t)]) h := by
  by_cases h0 : toldE f t = 0
  case neg =>
    rw [if_neg h0]
    refine VC.body Try.func33 rfl Try.ntmps33 Try.call33 (h.grows_refl) rfl ?_; conv => whnf
    repeat' (first | ((first | refine zs1 ?_ | refine zs2 ?_ | refine zs3 ?_ | refine zs4 ?_ | refine zs5 ?_ | refine zs6 [] ?_); conv => whnf) | ((first | apply zi1 | apply zi2 | apply zi3 | apply zi4 | apply zi5) <;> intro _ <;> conv => whnf) | (refine VCall.intro (vc_begun_no f t _ hn hl h0) ?_; conv => whnf))
    · exact VOut.same rfl
    · rename_i h1; exact absurd (by simpa using h1) h0
  case pos =>
    rw [h0, if_pos rfl]
    refine VC.body Try.func33 rfl Try.ntmps33 Try.call33 (h.grows_refl) rfl ?_; conv => whnf
    repeat' (first | ((first | refine zs1 ?_ | refine zs2 ?_ | refine zs3 ?_ | refine zs4 ?_ | refine zs5 ?_ | refine zs6 [] ?_); conv => whnf) | ((first | apply zi1 | apply zi2 | apply zi3 | apply zi4 | apply zi5) <;> intro _ <;> conv => whnf) | (refine VCall.intro (vc_begun_ok f t _ hn hl h0) ?_; conv => whnf))
    refine VCall.intro (vc_chains f t _ (told_ok h0)) ?_
    conv => whnf
    exact VOut.same rfl
def ownS (f : Fil) (t : List Int) : Nat → Int × Int
  | 0 => (2, 0)
  | k + 1 => if arB f t k then (sdAt f k, tAt t k) else ownS f t k
def own (f : Fil) (t : List Int) : Int × Int := ownS f t t.length
theorem ownS_sel (f : Fil) (t : List Int) : ∀ k, (selS (arB f t) k = [] ∧ ownS f t k = (2, 0)) ∨ ∃ (l : List Int) (j : Nat), selS (arB f t) k = l ++ [(j : Int)] ∧ j < k ∧ arB f t j = true ∧ ownS f t k = (sdAt f j, tAt t j)
  | 0 => .inl ⟨rfl, rfl⟩
  | k + 1 => by
    rw [selS, ownS]
    cases h : arB f t k
    · simp only [Bool.false_eq_true, if_false]
      rcases ownS_sel f t k with h1 | ⟨l, j, h1, h2, h3, h4⟩
      · exact .inl h1
      · exact .inr ⟨l, j, h1, by omega, h3, h4⟩
    · simp only [if_true]
      exact .inr ⟨_, k, rfl, by omega, h, rfl⟩
theorem vc_Owner (f : Fil) (t : List Int) (h : Hp) (hn : f.ps.length ≤ 4000000) (hl : t.length ≤ 4000000) : VC Try.prog 7 [vF f, ints t] h (.tuple [I (if toldE f t = 0 then (own f t).1 else 0), I (toldE f t)]) h := by
  by_cases h0 : toldE f t = 0
  case neg =>
    rw [if_neg h0]
    refine VC.body Try.func7 rfl Try.ntmps7 Try.call7 (h.grows_refl) rfl ?_; conv => whnf
    repeat' (first | ((first | refine zs1 ?_ | refine zs2 ?_ | refine zs3 ?_ | refine zs4 ?_ | refine zs5 ?_ | refine zs6 [] ?_); conv => whnf) | ((first | apply zi1 | apply zi2 | apply zi3 | apply zi4 | apply zi5) <;> intro _ <;> conv => whnf) | (refine VCall.intro (vc_begun_no f t _ hn hl h0) ?_; conv => whnf))
    · exact VOut.same rfl
    · rename_i h1; exact absurd (by simpa using h1) h0
  case pos =>
    have o := told_ok h0
    have hlen := o.len
    have hn' := o.n
    rw [h0, if_pos rfl]
    refine VC.body Try.func7 rfl Try.ntmps7 Try.call7 (h.grows_refl) rfl ?_; conv => whnf
    repeat' (first | ((first | refine zs1 ?_ | refine zs2 ?_ | refine zs3 ?_ | refine zs4 ?_ | refine zs5 ?_ | refine zs6 [] ?_); conv => whnf) | ((first | apply zi1 | apply zi2 | apply zi3 | apply zi4 | apply zi5) <;> intro _ <;> conv => whnf) | (refine VCall.intro (vc_begun_ok f t _ hn hl h0) ?_; conv => whnf))
    refine VCall.intro (vc_darises f t _ o) ?_
    rcases ownS_sel f t t.length with ⟨h2, h3⟩ | ⟨l, j, h2, h3, h4, h5⟩
    · rw [arL, h2, own, h3]
      conv => whnf
      exact VOut.same rfl
    · have hsl := selS_len (arB f t) t.length
      rw [arL, own, h5]
      rw [h2] at hsl ⊢
      have hi : (l ++ [(j : Int)])[l.length]? = some (j : Int) := by simp
      have hlen2 : (l ++ [(j : Int)]).length = l.length + 1 := by simp
      have hp : f.ps[j]? = some f.ps[j] := List.getElem?_eq_getElem (by omega)
      generalize f.ps[j] = p at hp
      rw [sdAt_eq hp]
      conv => whnf
      repeat' (first | ((first | refine zs1 ?_ | refine zs2 ?_ | refine zs3 ?_ | refine zs4 ?_ | refine zs5 ?_ | refine zs6 [] ?_); conv => whnf) | ((first | apply zi1 | apply zi2 | apply zi3 | apply zi4 | apply zi5) <;> intro _ <;> conv => whnf) | (refine VAny.ix encI_len l.length (by omega) rfl hi ?_; conv => whnf) | (refine VAny.ix encP_len j rfl rfl hp ?_; conv => whnf))
      · omega
      · exact VOut.same rfl
end Go.Proofs.Ytaodhdpopklipaa

open Go.Vm
namespace Go.Proofs.Ytaodhdpopklipaa
set_option maxRecDepth 20000
set_option maxHeartbeats 1000000

def showE (f : Fil) (t : List Int) (p : Int) : Int := if toldE f t ≠ 0 then toldE f t else if p < 0 ∨ (t.length : Int) - 1 < p then 2 else bif arB f t p.toNat then 0 else 7
structure Shw (f : Fil) (t : List Int) (p : Nat) : Prop extends Okt f t where
  lt : p < t.length
  ar : arB f t p = true
theorem show_ok {f : Fil} {t : List Int} {p : Int} (h : showE f t p = 0) : ∃ q : Nat, p = q ∧ Shw f t q := by
  unfold showE at h
  split at h
  · contradiction
  · rename_i h0
    split at h
    · cases h
    · rename_i h1
      cases h2 : arB f t p.toNat
      · rw [h2] at h; cases h
      · have o := told_ok (f := f) (t := t) (by simpa using h0)
        exact ⟨p.toNat, by omega, { o with lt := by omega, ar := h2 }⟩
theorem vc_shown_ok (f : Fil) (t : List Int) (p hi : Nat) (h : Hp) (hl : t.length ≤ 4000000) (o : Shw f t p) (h0 : toldE f t = 0) (hc : chn f t p = some ⟨fst f t p, hi⟩) : VC Try.prog 54 [vF f, ints t, I p] h (.tuple [.fp (encDk f t), .agg [I (fst f t p), I hi], I 0]) h := by
  have hlen := o.len
  have hn' := o.n
  have hlt := o.lt
  refine VC.body Try.func54 rfl Try.ntmps54 Try.call54 (h.grows_refl) rfl ?_; conv => whnf
  repeat' (first | ((first | refine zs1 ?_ | refine zs2 ?_ | refine zs3 ?_ | refine zs4 ?_ | refine zs5 ?_ | refine zs6 [] ?_); conv => whnf) | ((first | apply zi1 | apply zi2 | apply zi3 | apply zi4 | apply zi5) <;> intro _ <;> conv => whnf) | (refine VCall.intro (vc_begun_ok f t _ (by omega) hl h0) ?_; conv => whnf) | (refine VCall.intro (vc_from _ _ _ _) ?_; conv => whnf))
  · omega
  · refine VCall.intro (vc_chn f t p _ o.toOkt) ?_
    rw [hc]
    conv => whnf
    repeat (first | ((first | refine zs1 ?_ | refine zs2 ?_ | refine zs3 ?_ | refine zs4 ?_ | refine zs5 ?_ | refine zs6 [] ?_); conv => whnf))
    exact VOut.same rfl
end Go.Proofs.Ytaodhdpopklipaa

open Go.Vm
namespace Go.Proofs.Ytaodhdpopklipaa
set_option maxRecDepth 20000
set_option maxHeartbeats 1000000

structure Rvd (l : List Int) (k : Nat) (m : List Int) : Prop where
  len : m.length = l.length
  le : 2 * k ≤ l.length + 1
  at' : ∀ j, j < l.length → m[j]? = if j < k ∨ l.length - k ≤ j then l[l.length - 1 - j]? else l[j]?
theorem Rvd.step {l m : List Int} {k : Nat} {a b : Int} (h : Rvd l k m) (hk : 2 * k + 1 < l.length) (ha : m[k]? = some a) (hb : m[l.length - 1 - k]? = some b) : Rvd l (k + 1) ((m.set k b).set (l.length - 1 - k) a) where
  len := by simp [h.len]
  le := by omega
  at' := fun j hj => by
    have hl := h.len
    have e1 := h.at' k (by omega)
    have e2 := h.at' (l.length - 1 - k) (by omega)
    rw [ha, if_neg (by omega)] at e1
    rw [hb, if_neg (by omega)] at e2
    rw [List.getElem?_set, List.length_set]
    by_cases h1 : l.length - 1 - k = j
    · rw [if_pos h1, if_pos (by omega), if_pos (by omega), e1]
      congr 1; omega
    · rw [if_neg h1, List.getElem?_set]
      by_cases h2 : k = j
      · rw [if_pos h2, if_pos (by omega), if_pos (by omega), e2]
        subst h2; rfl
      · rw [if_neg h2, h.at' j hj]
        have : (j < k ∨ l.length - k ≤ j) ↔ (j < k + 1 ∨ l.length - (k + 1) ≤ j) := by omega
        simp only [this]
theorem Rvd.done {l m : List Int} {k : Nat} (h : Rvd l k m) (hk : l.length ≤ 2 * k + 1) : m = l.reverse := by
  apply List.ext_getElem?
  intro j
  have hl := h.len
  rcases Nat.lt_or_ge j l.length with h1 | h1
  · rw [h.at' j h1, List.getElem?_reverse h1]
    split
    · rfl
    · congr 1; omega
  · rw [List.getElem?_eq_none (by omega), List.getElem?_eq_none (by simpa using h1)]
theorem vc_reverse (l : List Int) (i : Vm.Id) (h : Hp) (hb : h.get i = some (.flat true (l.flatMap encI))) (hn : l.length ≤ 4000000) :
    VC Try.prog 55 [.gl i 1 l.length] h (.tuple []) (h.set i (.flat true (l.reverse.flatMap encI))) := by
  have hd : ∀ p ∈ [(i, Blk.flat true (l.reverse.flatMap encI))], h.get p.1 ≠ none := by
    intro p hp
    simp only [List.mem_cons, List.not_mem_nil, or_false] at hp
    subst hp; simp only; rw [hb]; simp
  have hgr : h.grows (h.set i (.flat true (l.reverse.flatMap encI))) := h.grows_set _ _
  refine VC.body Try.func55 rfl Try.ntmps55 Try.call55 hgr rfl ?_; conv => whnf
  repeat (first | ((first | refine zs1 ?_ | refine zs2 ?_ | refine zs3 ?_ | refine zs4 ?_ | refine zs5 ?_ | refine zs6 [] ?_); conv => whnf))
  have hlift : h.lift i = some (.flat true (l.flatMap encI)) := get_out hb []
  refine VCode.lpo (fun x : Nat × List Int => [(0, .gl (.out i) 1 l.length), (2, I x.1), (3, I ((l.length : Int) - 1 - x.1))]) (fun x => outW h.lift i (.flat true (x.2.flatMap encI))) (fun _ => []) (fun x => Rvd l x.1 x.2) (fun x => l.length - x.1) (0, l) ⟨rfl, by omega, fun j hj => ?_⟩ (outW_id hlift) ?_ ?_
  · rw [if_neg (by omega)]
  · conv => whnf
    refine Retell.turn ⟨[], 0, [], []⟩ (TurnOk.mk' _ _ [] [] (OutOk.outW (OutOk.lift _) rfl) rfl (by decide) zb trivial trivial rfl) zv zm
  · rintro ⟨k, m⟩ hr
    simp only at hr ⊢
    have hl := hr.len
    conv => whnf
    refine VIte.dec (fun h3 => ?_) (fun h3 => ?_)
    · have ha : m[k]? = some m[k] := List.getElem?_eq_getElem (by omega)
      have hc : m[l.length - 1 - k]? = some m[l.length - 1 - k] := List.getElem?_eq_getElem (by omega)
      generalize m[k] = a at ha
      generalize m[l.length - 1 - k] = c at hc
      have hst := hr.step (by omega) ha hc
      have hc2 : (m.set k c)[l.length - 1 - k]? = some c := by rw [List.getElem?_set, if_neg (by omega)]; exact hc
      conv => whnf
      repeat' (first | ((first | refine zs1 ?_ | refine zs2 ?_ | refine zs3 ?_ | refine zs4 ?_ | refine zs5 ?_ | refine zs6 [] ?_); conv => whnf) | ((first | apply zi1 | apply zi2 | apply zi3 | apply zi4 | apply zi5) <;> intro _ <;> conv => whnf) | (refine VLd.recc encI_len (l.length - 1 - k) 0 rfl rfl (outW_get _ _ _ _) hc (by decide) rfl (by simp only [Nat.zero_add, Nat.mul_one]; omega) ?_; conv => whnf) | (refine VLd.recc encI_len k 0 rfl rfl (outW_get _ _ _ _) ha (by decide) rfl (by simp only [Nat.zero_add, Nat.mul_one]; omega) ?_; conv => whnf))
      refine VMem.setRec encI_len k 0 c rfl rfl (outW_get _ _ _ _) ha (by decide) rfl (by simp only [Nat.zero_add, Nat.mul_one]; omega) ?_
      conv => whnf
      repeat (first | ((first | refine zs1 ?_ | refine zs2 ?_ | refine zs3 ?_ | refine zs4 ?_ | refine zs5 ?_ | refine zs6 [] ?_); conv => whnf))
      refine VMem.setRec encI_len (l.length - 1 - k) 0 a rfl rfl (outW_get _ _ _ _) hc2 (by decide) rfl (by simp only [Nat.zero_add, Nat.mul_one]; omega) ?_
      conv => whnf
      repeat (first | ((first | refine zs1 ?_ | refine zs2 ?_ | refine zs3 ?_ | refine zs4 ?_ | refine zs5 ?_ | refine zs6 [] ?_); conv => whnf))
      refine LEndO.intro (k + 1, (m.set k c).set (l.length - 1 - k) a) hst (by simp only; omega) ((outW_same (outW _ _ _) _ _ _).trans (outW_same _ _ _ _)) ?_
      conv => whnf
      refine Retell.turn ⟨[], 0, [], []⟩ (TurnOk.mk' _ _ [] [] (OutOk.outW (OutOk.lift _) rfl) rfl (by decide) zb trivial trivial rfl) zv zm
    · conv => whnf
      have hm := hr.done (by omega)
      subst hm
      have := VOut.upd (loc := []) (r1 := .tuple []) (r := .tuple []) [(i, .flat true (l.reverse.flatMap encI))] [] [] 0 rfl hd (by simp) rfl (by intro k b hk; simp at hk) (fun σ x hx => hx) (outer := outW h.lift i (.flat true (l.reverse.flatMap encI))) rfl
      have he : (h.sets [(i, Blk.flat true (l.reverse.flatMap encI))]).pushes [] = h.set i (.flat true (l.reverse.flatMap encI)) := by simp [Hp.sets, Hp.pushes]
      rw [he] at this
      exact this
end Go.Proofs.Ytaodhdpopklipaa

open Go.Vm
namespace Go.Proofs.Ytaodhdpopklipaa
set_option maxRecDepth 20000
set_option maxHeartbeats 1000000

def jmp (f : Fil) (t : List Int) (lo a : Nat) : Nat → Nat
  | 0 => 0
  | n + 1 => if lo < n + 1 ∧ tAt t a - tAt t n ≤ f.G then jmp f t lo a n else n + 1
theorem jmp_le (f : Fil) (t : List Int) (lo a : Nat) : ∀ n, jmp f t lo a n ≤ n
  | 0 => Nat.le_refl _
  | n + 1 => by
    rw [jmp]; split
    · exact Nat.le_succ_of_le (jmp_le f t lo a n)
    · exact Nat.le_refl _
theorem jmp_ge (f : Fil) (t : List Int) (lo a : Nat) : ∀ n, lo ≤ n → lo ≤ jmp f t lo a n
  | 0, h => h
  | n + 1, h => by
    rw [jmp]; split
    · exact jmp_ge f t lo a n (by omega)
    · exact h
def fewS (f : Fil) (t : List Int) (lo p : Nat) : Nat → Nat → List Int
  | 0, a => [(a : Int)]
  | n + 1, a => if tAt t p - tAt t a < f.Y then (a : Int) :: fewS f t lo p n (jmp f t lo a a) else [(a : Int)]
theorem fewS_len (f : Fil) (t : List Int) (lo p : Nat) : ∀ n a, (fewS f t lo p n a).length ≤ n + 1
  | 0, a => by simp [fewS]
  | n + 1, a => by
    rw [fewS]; split
    · have := fewS_len f t lo p n (jmp f t lo a a); simp; omega
    · simp
def few (f : Fil) (t : List Int) (p : Nat) : List Int := (fewS f t (fst f t p) p p p).reverse
structure InCh (f : Fil) (t : List Int) (p : Nat) (hi : Nat) : Prop where
  ph : p ≤ hi
  hl : hi < t.length
  hb : bgB f t (fst f t p) = true
  hn : ∀ j, fst f t p < j → j ≤ hi → bgB f t j = false
  hx : hi + 1 < t.length → bgB f t (hi + 1) = true
  hc : chn f t p = some ⟨fst f t p, hi⟩
theorem InCh.of {f : Fil} {t : List Int} {p : Nat} (o : Shw f t p) : ∃ hi, InCh f t p hi := by
  obtain ⟨hi, h1, h2, h3, h4, h5, h6⟩ := chn_some o.toOkt o.lt o.ar
  exact ⟨hi, h2, h3, h4, h5, h6, h1⟩
theorem InCh.gap {f : Fil} {t : List Int} {p hi : Nat} (c : InCh f t p hi) {a : Nat} (h1 : fst f t p < a) (h2 : a ≤ hi) : tAt t a - tAt t (a - 1) ≤ f.G := by
  have := c.hn a h1 h2
  rw [bgB, decide_eq_false_iff_not] at this
  omega
theorem InCh.jmp_lt {f : Fil} {t : List Int} {p hi : Nat} (c : InCh f t p hi) {a : Nat} (h1 : fst f t p < a) (h2 : a ≤ hi) : jmp f t (fst f t p) a a < a := by
  obtain ⟨b, rfl⟩ : ∃ b, a = b + 1 := ⟨a - 1, by omega⟩
  have := c.gap h1 h2
  simp only [Nat.add_sub_cancel] at this
  rw [jmp, if_pos ⟨h1, this⟩]
  exact Nat.lt_succ_of_le (jmp_le f t _ _ _)
theorem Shw.far {f : Fil} {t : List Int} {p : Nat} (o : Shw f t p) : f.Y ≤ tAt t p - tAt t (fst f t p) := by
  have := o.ar
  rw [arB, decide_eq_true_eq] at this
  exact this.1
end Go.Proofs.Ytaodhdpopklipaa

open Go.Vm
namespace Go.Proofs.Ytaodhdpopklipaa
set_option maxRecDepth 20000
set_option maxHeartbeats 1000000
theorem InCh.jmps {f : Fil} {t : List Int} {p hi : Nat} (c : InCh f t p hi) : ∀ b, fst f t p < b → b ≤ p → jmp f t (fst f t p) b b < b := fun b h1 h2 => by
  have := c.ph
  exact c.jmp_lt h1 (by omega)
end Go.Proofs.Ytaodhdpopklipaa

open Go.Vm
namespace Go.Proofs.Ytaodhdpopklipaa
set_option maxRecDepth 20000
set_option maxHeartbeats 1000000
theorem eachS_all (q : Int → Bool) : ∀ (l : List Int) (k : Nat), eachS (fun _ x => q x) k l = l.all q
  | [], _ => rfl
  | x :: l, k => by rw [eachS, eachS_all q l, List.all_cons]
def nx (f : Fil) (t l : List Int) (i : Nat) (x : Int) : Bool := decide (i = 0 ∨ (l.getD (i - 1) 0 < x ∧ tAt t x.toNat - tAt t (l.getD (i - 1) 0).toNat ≤ f.G))
end Go.Proofs.Ytaodhdpopklipaa

open Go.Vm
namespace Go.Proofs.Ytaodhdpopklipaa
set_option maxRecDepth 20000
set_option maxHeartbeats 1000000

def innS (f : Fil) (t : List Int) (i : Nat) (l : List Int) : Nat → Nat → Int → Int
  | 0, _, v => v
  | k + 1, j, v => innS f t i l k (j + 1) (if tAt t i - tAt t j ≤ f.G ∧ l.getD j 0 + 1 < v then l.getD j 0 + 1 else v)
def mn1 (f : Fil) (t : List Int) (p lo i : Nat) (l : List Int) : Int := innS f t i l (i - lo) lo (if f.Y ≤ tAt t p - tAt t i then 1 else 100)
def mnS (f : Fil) (t : List Int) (p lo : Nat) : Nat → Nat → List Int → List Int
  | 0, _, l => l
  | k + 1, i, l => mnS f t p lo k (i + 1) (l.set i (mn1 f t p lo i l))
def many (f : Fil) (t : List Int) (p : Nat) : Int := (mnS f t p (fst f t p) (p + 1 - fst f t p) (fst f t p) (List.replicate t.length 0)).getD p 0
end Go.Proofs.Ytaodhdpopklipaa

open Go.Vm
namespace Go.Proofs.Ytaodhdpopklipaa
set_option maxRecDepth 20000
set_option maxHeartbeats 1000000

def farS (f : Fil) (t : List Int) (p : Nat) : Nat → Nat → Nat
  | 0, i => i
  | n + 1, i => if f.Y ≤ tAt t p - tAt t (i + 1) then farS f t p n (i + 1) else i
def far (f : Fil) (t : List Int) (p : Nat) : Nat := farS f t p p (fst f t p)
theorem farS_ok {f : Fil} {t : List Int} {p : Nat} (hY : 1 ≤ f.Y) : ∀ n i, p ≤ i + n → i < p → f.Y ≤ tAt t p - tAt t i → i ≤ farS f t p n i ∧ farS f t p n i < p ∧ f.Y ≤ tAt t p - tAt t (farS f t p n i) ∧ tAt t p - tAt t (farS f t p n i + 1) < f.Y
  | 0, i, h1, h2, _ => by omega
  | n + 1, i, h1, h2, h3 => by
    rw [farS]
    split
    · rename_i h4
      have h5 : i + 1 < p := by
        rcases Nat.eq_or_lt_of_le (Nat.succ_le_of_lt h2) with h6 | h6
        · have h6 : i + 1 = p := h6
          rw [h6] at h4; omega
        · exact h6
      have := farS_ok hY n (i + 1) (by omega) h5 h4
      omega
    · exact ⟨Nat.le_refl _, h2, h3, by omega⟩
theorem far_ok {f : Fil} {t : List Int} {p : Nat} (o : Shw f t p) : fst f t p ≤ far f t p ∧ far f t p < p ∧ f.Y ≤ tAt t p - tAt t (far f t p) ∧ tAt t p - tAt t (far f t p + 1) < f.Y := by
  have h1 := o.far
  have h2 := o.y.1
  have h3 := fst_le f t p
  have h4 : fst f t p < p := by
    rcases Nat.eq_or_lt_of_le h3 with h5 | h5
    · rw [h5] at h1; omega
    · exact h5
  exact farS_ok h2 p _ (by omega) h4 h1
def asc (l : List Int) (i : Nat) (x : Int) : Bool := decide (i = 0 ∨ l.getD (i - 1) 0 < x)
def cntS (f : Fil) (y : Int) (l : List Int) : Nat → Nat
  | 0 => 0
  | k + 1 => cntS f y l k + (if l.getD k 0 + 1 ≤ y ∧ y ≤ l.getD k 0 + f.G then 1 else 0)
theorem cntS_le (f : Fil) (y : Int) (l : List Int) (k : Nat) : ∀ j, cntS f y l k ≤ cntS f y l (k + j)
  | 0 => Nat.le_refl _
  | j + 1 => Nat.le_trans (cntS_le f y l k j) (by rw [← Nat.add_assoc, cntS]; omega)
theorem cntS_bd (f : Fil) (y : Int) (l : List Int) : ∀ k, cntS f y l k ≤ k
  | 0 => Nat.le_refl _
  | k + 1 => by have := cntS_bd f y l k; rw [cntS]; split <;> omega
def badW (f : Fil) (t l : List Int) (p i : Nat) : Bool := decide (1 < cntS f (tAt t i) l l.length ∨ (0 < cntS f (tAt t i) l l.length ∧ i = p))
def okW (f : Fil) (t l : List Int) (p : Nat) : Nat → Nat → Bool
  | 0, _ => true
  | k + 1, i => bif badW f t l p i then false else okW f t l p k (i + 1)
def hiOf (f : Fil) (t : List Int) (p : Nat) : Nat := match chn f t p with
  | some s => s.hi.toNat
  | none => 0
def pvE (f : Fil) (t : List Int) (p : Nat) (l : List Int) : Int :=
  bif eachS (asc l) 0 l then
    bif l.all (fun x => decide (tAt t (far f t p) ≤ x ∧ x ≤ tAt t p - 1)) then
      bif okW f t l p (hiOf f t p + 1 - fst f t p) (fst f t p) then 0 else 9
    else 4
  else 5
def pvR (l : List Int) (e : Int) : V := .tuple [I (if e = 0 then l.length + 2 else 0), I e]
theorem vc_pr1 (l : List Int) (i : Nat) (x : Int) (h : Hp) (hl : l.length ≤ 4000000) (hx : l[i]? = some x) : VC Try.prog 57 [I i, I x, .fp [dints l]] h (B (asc l i x)) h := by
  have hil : i < l.length := by obtain ⟨h1, _⟩ := List.getElem?_eq_some_iff.1 hx; exact h1
  have hz : l[i - 1]? = some l[i - 1] := List.getElem?_eq_getElem (by omega)
  have e2 : l.getD (i - 1) 0 = l[i - 1] := by simp [hz]
  unfold asc
  rw [e2]
  generalize l[i - 1] = z at hz
  refine VC.body Try.func57 rfl Try.ntmps57 Try.call57 (h.grows_refl) rfl ?_; conv => whnf
  repeat' (first | ((first | refine zs1 ?_ | refine zs2 ?_ | refine zs3 ?_ | refine zs4 ?_ | refine zs5 ?_ | refine zs6 [] ?_); conv => whnf) | ((first | apply zi1 | apply zi2 | apply zi3 | apply zi4 | apply zi5) <;> intro _ <;> conv => whnf) | (refine VAny.ix encI_len (i - 1) (by omega) rfl hz ?_; conv => whnf))
  all_goals (refine VOut.dec ?_; first | (simp only [decide_eq_true_eq]; omega) | (simp; omega) | (simp; done))
theorem vc_pr2 (f : Fil) (t : List Int) (a p i : Nat) (x : Int) (h : Hp) (o : Okt f t) (ha : a < t.length) (hp : p < t.length) : VC Try.prog 58 [I i, I x, .fp [dints t], .fp [DI a], .fp [DI p]] h (B (decide (tAt t a ≤ x ∧ x ≤ tAt t p - 1))) h := by
  have hy : t[a]? = some t[a] := List.getElem?_eq_getElem (by omega)
  have hw : t[p]? = some t[p] := List.getElem?_eq_getElem (by omega)
  have b3 := o.yr hy
  have b4 := o.yr hw
  rw [tAt_eq hy, tAt_eq hw]
  generalize t[a] = y at hy b3
  generalize t[p] = w at hw b4
  refine VC.body Try.func58 rfl Try.ntmps58 Try.call58 (h.grows_refl) rfl ?_; conv => whnf
  repeat' (first | ((first | refine zs1 ?_ | refine zs2 ?_ | refine zs3 ?_ | refine zs4 ?_ | refine zs5 ?_ | refine zs6 [] ?_); conv => whnf) | ((first | apply zi1 | apply zi2 | apply zi3 | apply zi4 | apply zi5) <;> intro _ <;> conv => whnf) | (refine VAny.ix encI_len a (by omega) rfl hy ?_; conv => whnf) | (refine VAny.ix encI_len p (by omega) rfl hw ?_; conv => whnf) | (refine VCall.intro (vc_from _ _ _ _) ?_; conv => whnf))
  all_goals (refine VOut.dec ?_; first | (simp only [decide_eq_true_eq]; omega) | (simp; omega) | (simp; done))
theorem vc_Proves_ok (f : Fil) (t : List Int) (p : Nat) (l : List Int) (h : Hp) (hl : t.length ≤ 4000000) (hl2 : l.length ≤ 4000000) (h0 : toldE f t = 0) (o : Shw f t p) :
    VC Try.prog 29 [vF f, ints t, I p, ints l] h (pvR l (pvE f t p l)) h := by
  have hlen := o.len
  have hn' := o.n
  have hlt := o.lt
  obtain ⟨hi, c⟩ := InCh.of o
  have hfr := far_ok o
  refine VC.bodyC 1 Try.func29 rfl Try.ntmps29 Try.call29 (h.grows_refl) rfl ?_; conv => whnf
  refine VCut.into 4 ?_
  repeat' (first | ((first | refine zs1 ?_ | refine zs2 ?_ | refine zs3 ?_ | refine zs4 ?_ | refine zs5 ?_ | refine zs6 [] ?_); conv => whnf) | ((first | apply zi1 | apply zi2 | apply zi3 | apply zi4 | apply zi5) <;> intro _ <;> conv => whnf) | (refine VCall.intro (vc_shown_ok f t p hi _ hl o h0 c.hc) ?_; conv => whnf))
  obtain ⟨F, hF⟩ : ∃ F, F = far f t p := ⟨_, rfl⟩
  have hF2 : F = farS f t p p (fst f t p) := hF
  rw [← hF] at hfr
  obtain ⟨lo, hlo⟩ : ∃ lo, lo = fst f t p := ⟨_, rfl⟩
  rw [← hlo] at hfr hF2 ⊢
  have hhi : hiOf f t p = hi := by rw [hiOf, c.hc]; rfl
  obtain ⟨E, hE⟩ : ∃ E, E = pvE f t p l := ⟨_, rfl⟩
  have hE2 : E = bif eachS (asc l) 0 l then bif l.all (fun x => decide (tAt t F ≤ x ∧ x ≤ tAt t p - 1)) then bif okW f t l p (hi + 1 - lo) lo then 0 else 9 else 4 else 5 := by rw [hE, hF, hlo, ← hhi]; rfl
  rw [← hE]
  have hy : t[p]? = some t[p] := List.getElem?_eq_getElem (by omega)
  have b3 := o.yr hy
  have e3 := tAt_eq hy
  have hhp := c.ph
  have hhl := c.hl
  refine VCode.lp (fun k : Nat => [(1, ints t), (2, I p), (3, ints l), (4, .ptr (.loc 0) 0), (5, .ptr (.loc 1) 0), (6, .ptr (.loc 2) 0), (7, .ptr (.loc 3) 0), (8, I 0), (9, I 0), (10, .fp (encDk f t)), (11, .ptr (.loc 4) 0), (12, I 0), (13, .ptr (.loc 5) 0)])
    (fun k => [.flat true (encF f), .flat true [dints t], .flat true [DI p], .flat true [dints l], .flat true [DI lo, DI hi], .flat true [DI k]]) (fun k => lo ≤ k ∧ k ≤ F ∧ ∃ n, F = farS f t p n k ∧ p ≤ k + n) (fun k => p - k) lo ⟨Nat.le_refl _, hfr.1, p, hF2, by omega⟩ ?_ ?_
  · conv => whnf
    refine Retell.turn ⟨[0,1,2,3,4,5], 6, [], []⟩ (TurnOk.mk' _ _ [] [] (OutOk.lift _) rfl (by decide) zb trivial trivial rfl) zv zm
  · rintro k ⟨h1, h2, n, h3, h4⟩
    obtain ⟨n, rfl⟩ : ∃ m, n = m + 1 := ⟨n - 1, by omega⟩
    rw [farS] at h3
    have hw : t[k + 1]? = some t[k + 1] := List.getElem?_eq_getElem (by omega)
    have b4 := o.yr hw
    have e4 := tAt_eq hw
    generalize t[p] = y at hy b3 e3
    generalize t[k + 1] = w at hw b4 e4
    conv => whnf
    repeat' (first | ((first | refine zs1 ?_ | refine zs2 ?_ | refine zs3 ?_ | refine zs4 ?_ | refine zs5 ?_ | refine zs6 [] ?_); conv => whnf) | ((first | apply zi1 | apply zi2 | apply zi3 | apply zi4 | apply zi5) <;> intro _ <;> conv => whnf) | (refine VAny.ix encI_len p (by omega) rfl hy ?_; conv => whnf) | (refine VAny.ix encI_len (k + 1) (by omega) rfl hw ?_; conv => whnf))
    · rw [if_pos (by omega)] at h3
      have hk1 : k + 1 ≤ F := by
        rcases Nat.eq_or_lt_of_le h2 with h6 | h6
        · subst h6; omega
        · exact h6
      refine LEnd.intro (k + 1) ⟨by omega, hk1, n, h3, by omega⟩ (by omega) ?_
      conv => whnf
      refine Retell.turn ⟨[0,1,2,3,4,5], 6, [], []⟩ (TurnOk.mk' _ _ [] [] (OutOk.lift _) rfl (by decide) zb trivial trivial rfl) zv zm
    · rw [if_neg (by omega)] at h3
      subst h3
      refine VCut.at [(1, ints t), (2, I p), (3, ints l), (4, .fp (encF f)), (5, .fp [dints t]), (6, .fp [DI p]), (7, .fp [dints l]), (8, I 0), (9, I 0), (10, .fp (encDk f t)), (11, .fp [DI lo, DI hi]), (12, I 0), (13, .fp [DI F])] [] ?_ ?_
      · conv => whnf
        refine Retell.turn ⟨[], 6, [(0, encF f), (1, [dints t]), (2, [DI p]), (3, [dints l]), (4, [DI lo, DI hi]), (5, [DI F])], []⟩ (TurnOk.mk' _ _ [(0, encF f), (1, [dints t]), (2, [DI p]), (3, [dints l]), (4, [DI lo, DI hi]), (5, [DI F])] [] (OutOk.lift _) rfl (by decide) zb zf trivial rfl) zv zm
      have key1 : VC Try.prog 56 [ints l, .func (.func 57) [] (D.vs [.pt [dints l]])] ⟨h.lift, []⟩ (B (eachS (asc l) 0 l)) ⟨h.lift, []⟩ :=
        vc_each l (asc l) 57 [.pt [dints l]] hl2 (fun i x h hx => vc_pr1 l i x h hl2 hx) _
      have key2 : VC Try.prog 56 [ints l, .func (.func 58) [] (D.vs [.pt [dints t], .pt [DI F], .pt [DI p]])] ⟨h.lift, []⟩ (B (l.all fun x => decide (tAt t F ≤ x ∧ x ≤ tAt t p - 1))) ⟨h.lift, []⟩ := by
        rw [← eachS_all _ l 0]
        exact vc_each l (fun _ x => decide (tAt t F ≤ x ∧ x ≤ tAt t p - 1)) 58 [.pt [dints t], .pt [DI F], .pt [DI p]] hl2 (fun i x h hx => vc_pr2 f t F p i x h o.toOkt (by omega) (by omega)) _
      have hRR : ∀ e : Int, E = e → pvR l E = .tuple [I (if e = 0 then l.length + 2 else 0), I e] := fun e he => by rw [he]; rfl
      cases hA : eachS (asc l) 0 l
      · rw [hA] at hE2 key1
        rw [hRR 5 hE2]
        conv => whnf
        repeat' (first | ((first | refine zs1 ?_ | refine zs2 ?_ | refine zs3 ?_ | refine zs4 ?_ | refine zs5 ?_ | refine zs6 [] ?_); conv => whnf) | ((first | apply zi1 | apply zi2 | apply zi3 | apply zi4 | apply zi5) <;> intro _ <;> conv => whnf) | (refine VCall.intro key1 ?_; conv => whnf))
        exact VOut.same rfl
      · rw [hA] at hE2 key1
        simp only [cond_true] at hE2
        cases hB : l.all fun x => decide (tAt t F ≤ x ∧ x ≤ tAt t p - 1)
        · rw [hB] at hE2 key2
          rw [hRR 4 hE2]
          conv => whnf
          repeat' (first | ((first | refine zs1 ?_ | refine zs2 ?_ | refine zs3 ?_ | refine zs4 ?_ | refine zs5 ?_ | refine zs6 [] ?_); conv => whnf) | ((first | apply zi1 | apply zi2 | apply zi3 | apply zi4 | apply zi5) <;> intro _ <;> conv => whnf) | (refine VCall.intro key1 ?_; conv => whnf) | (refine VCall.intro key2 ?_; conv => whnf))
          exact VOut.same rfl
        · rw [hB] at hE2 key2
          simp only [cond_true] at hE2
          have hin : ∀ {i : Nat} {x : Int}, l[i]? = some x → 0 ≤ x ∧ x ≤ 3000 := fun {i x} hx => by
            have h9 := List.all_eq_true.1 hB x (List.mem_of_getElem? hx)
            rw [decide_eq_true_eq] at h9
            have hfy : t[F]? = some t[F] := List.getElem?_eq_getElem (by omega)
            have b9 := o.yr hfy
            rw [tAt_eq hfy] at h9
            omega
          have hG := o.g
          conv => whnf
          repeat' (first | ((first | refine zs1 ?_ | refine zs2 ?_ | refine zs3 ?_ | refine zs4 ?_ | refine zs5 ?_ | refine zs6 [] ?_); conv => whnf) | ((first | apply zi1 | apply zi2 | apply zi3 | apply zi4 | apply zi5) <;> intro _ <;> conv => whnf) | (refine VCall.intro key1 ?_; conv => whnf) | (refine VCall.intro key2 ?_; conv => whnf))
          refine VCode.lp (fun k : Nat => [(4, .fp (encF f)), (5, .fp [dints t]), (6, .fp [DI p]), (7, .fp [dints l]), (8, I 0), (9, I 0), (10, .fp (encDk f t)), (11, .fp [DI lo, DI hi]), (12, I 0), (13, .fp [DI F]), (14, B true), (15, I k)]) (fun _ => []) (fun k => lo ≤ k ∧ k ≤ hi + 1 ∧ okW f t l p (hi + 1 - lo) lo = okW f t l p (hi + 1 - k) k) (fun k => hi + 1 - k) lo ⟨Nat.le_refl _, by omega, rfl⟩ ?_ ?_
          · conv => whnf
            refine Retell.turn ⟨[], 0, [], []⟩ (TurnOk.mk' _ _ [] [] (OutOk.lift _) rfl (by decide) zb trivial trivial rfl) zv zm
          · rintro i ⟨g1, g2, g3⟩
            conv => whnf
            repeat (first | ((first | refine zs1 ?_ | refine zs2 ?_ | refine zs3 ?_ | refine zs4 ?_ | refine zs5 ?_ | refine zs6 [] ?_); conv => whnf))
            refine VIte.dec (fun g4 => ?_) (fun g4 => ?_)
            · have hx : t[i]? = some t[i] := List.getElem?_eq_getElem (by omega)
              have b5 := o.yr hx
              have e5 := tAt_eq hx
              have hbad : badW f t l p i = true ↔ (1 < cntS f t[i] l l.length ∨ (0 < cntS f t[i] l l.length ∧ i = p)) := by rw [badW, e5, decide_eq_true_eq]
              have g3b : (badW f t l p i = true → okW f t l p (hi + 1 - lo) lo = false) ∧ (badW f t l p i = false → okW f t l p (hi + 1 - lo) lo = okW f t l p (hi + 1 - (i + 1)) (i + 1)) := by
                obtain ⟨m, hm⟩ : ∃ m, hi + 1 - i = m + 1 := ⟨hi - i, by omega⟩
                rw [hm, okW] at g3
                rw [show hi + 1 - (i + 1) = m by omega, g3]
                exact ⟨fun hb => by rw [hb]; rfl, fun hb => by rw [hb]; rfl⟩
              generalize t[i] = x at hx b5 e5 hbad
              conv => whnf
              repeat (first | ((first | refine zs1 ?_ | refine zs2 ?_ | refine zs3 ?_ | refine zs4 ?_ | refine zs5 ?_ | refine zs6 [] ?_); conv => whnf))
              refine VCode.lp (fun k : Nat => [(4, .fp (encF f)), (5, .fp [dints t]), (6, .fp [DI p]), (7, .fp [dints l]), (8, I 0), (9, I 0), (10, .fp (encDk f t)), (11, .fp [DI lo, DI hi]), (12, I 0), (13, .fp [DI F]), (14, B true), (15, I i), (16, I (cntS f x l k)), (68, ints l), (69, I l.length), (70, I k)]) (fun _ => []) (fun k => k ≤ l.length ∧ ¬ (1 < cntS f x l k ∨ (0 < cntS f x l k ∧ i = p))) (fun k => l.length - k) 0 ⟨Nat.zero_le _, by simp [cntS]⟩ ?_ ?_
              · conv => whnf
                refine Retell.turn ⟨[], 0, [], []⟩ (TurnOk.mk' _ _ [] [] (OutOk.lift _) rfl (by decide) zb trivial trivial rfl) zv zm
              · rintro k ⟨k1, k2⟩
                have hcb := cntS_bd f x l k
                conv => whnf
                refine VIte.dec (fun k3 => ?_) (fun k3 => ?_)
                · have hv : l[k]? = some l[k] := List.getElem?_eq_getElem (by omega)
                  have bv := hin hv
                  have ev : l.getD k 0 = l[k] := by simp [hv]
                  have hc1 : (l[k] + 1 ≤ x ∧ x ≤ l[k] + f.G → cntS f x l (k + 1) = cntS f x l k + 1) ∧ (¬ (l[k] + 1 ≤ x ∧ x ≤ l[k] + f.G) → cntS f x l (k + 1) = cntS f x l k) := by
                    rw [cntS, ev]
                    exact ⟨fun hc => by rw [if_pos hc], fun hc => by rw [if_neg hc]; rfl⟩
                  have hmono := cntS_le f x l (k + 1) (l.length - (k + 1))
                  rw [show k + 1 + (l.length - (k + 1)) = l.length by omega] at hmono
                  generalize l[k] = v at hv bv ev hc1
                  obtain ⟨C, hC⟩ : ∃ C, C = cntS f x l k := ⟨_, rfl⟩
                  obtain ⟨C', hC'⟩ : ∃ C', C' = cntS f x l (k + 1) := ⟨_, rfl⟩
                  rw [← hC] at hc1 hcb k2 ⊢
                  rw [← hC'] at hc1 hmono
                  conv => whnf
                  repeat' (first | ((first | refine zs1 ?_ | refine zs2 ?_ | refine zs3 ?_ | refine zs4 ?_ | refine zs5 ?_ | refine zs6 [] ?_); conv => whnf) | ((first | apply zi1 | apply zi2 | apply zi3 | apply zi4 | apply zi5) <;> intro _ <;> conv => whnf) | (refine VAny.ix encI_len k (by omega) rfl hv ?_; conv => whnf) | (refine VAny.ix encI_len i (by omega) rfl hx ?_; conv => whnf) | (refine VCall.intro (vc_from _ _ _ _) ?_; conv => whnf))
                  all_goals first
                    | (have hb := hbad.2 (by omega)
                       rw [g3b.1 hb] at hE2
                       rw [hRR 9 hE2]
                       exact VOut.same rfl)
                    | (refine LEnd.intro (k + 1) ⟨by omega, by rw [← hC']; omega⟩ (by omega) ?_
                       conv => whnf
                       rw [← hC']
                       refine Retell.turn ⟨[], 0, [], []⟩ (TurnOk.mk' _ _ [] [] (OutOk.lift _) rfl (by decide) zb trivial trivial rfl) zv zm)
                · have hk : k = l.length := by omega
                  subst hk
                  have hb : badW f t l p i = false := Bool.eq_false_iff.2 fun hb => k2 (hbad.1 hb)
                  conv => whnf
                  repeat (first | ((first | refine zs1 ?_ | refine zs2 ?_ | refine zs3 ?_ | refine zs4 ?_ | refine zs5 ?_ | refine zs6 [] ?_); conv => whnf))
                  refine LEnd.intro (i + 1) ⟨by omega, by omega, g3b.2 hb⟩ (by omega) ?_
                  conv => whnf
                  refine Retell.turn ⟨[], 0, [], []⟩ (TurnOk.mk' _ _ [] [] (OutOk.lift _) rfl (by decide) zb trivial trivial rfl) zv zm
            · have hi2 : i = hi + 1 := by omega
              subst hi2
              rw [g3, Nat.sub_self, okW] at hE2
              rw [hRR 0 hE2]
              conv => whnf
              repeat (first | ((first | refine zs1 ?_ | refine zs2 ?_ | refine zs3 ?_ | refine zs4 ?_ | refine zs5 ?_ | refine zs6 [] ?_); conv => whnf))
              exact VOut.same rfl
end Go.Proofs.Ytaodhdpopklipaa

open Go.Vm
namespace Go.Proofs.Ytaodhdpopklipaa
set_option maxRecDepth 20000
set_option maxHeartbeats 1000000

theorem drop_eq_dec {α : Type} [DecidableEq α] {a b : List α} {k : Nat} {x y : α} (hx : a[k]? = some x) (hy : b[k]? = some y) : decide (a.drop k = b.drop k) = (decide (x = y) && decide (a.drop (k + 1) = b.drop (k + 1))) := by
  obtain ⟨h1, rfl⟩ := List.getElem?_eq_some_iff.1 hx
  obtain ⟨h2, rfl⟩ := List.getElem?_eq_some_iff.1 hy
  rw [List.drop_eq_getElem_cons h1, List.drop_eq_getElem_cons h2, Bool.eq_iff_iff, Bool.and_eq_true, decide_eq_true_eq, decide_eq_true_eq, decide_eq_true_eq, List.cons.injEq]
theorem ne_I {x y : Int} (h : ¬ x = y) : ¬ x = y := h
theorem eq_I {x y : Int} (h : x = y) : x = y := h
theorem ne_S {x y : Spn} (h : ¬ x = y) : ¬ x = y := h
theorem eq_S {x y : Spn} (h : ¬ ¬ x = y) : x = y := Decidable.not_not.1 h
theorem top43 : eqTop Try.prog 60 = some (Sh.cons 0 1 false Sh.int (Sh.cons 1 1 false Sh.int Sh.nil)) := by kernel_rfl
theorem vneqS (x y : Spn) : vaggeq Try.prog .neq 60 (.agg [I x.lo, I x.hi]) (.agg [I y.lo, I y.hi]) = some (B (decide (¬ x = y))) := by
  have : (!((x.lo == y.lo) && ((x.hi == y.hi) && true))) = decide (¬ x = y) := by cases x; cases y; rw [Bool.eq_iff_iff, decide_eq_true_eq]; simp [-not_and]; omega
  rw [← this]
  unfold vaggeq
  rw [top43]
  rfl
theorem vc_equalI (a b : List Int) (h : Hp) (ha : a.length ≤ 4000000) (hb : b.length ≤ 4000000) : VC Try.prog 30 [ints a, ints b] h (B (decide (a = b))) h := by
  obtain ⟨E, hE⟩ : ∃ E, E = decide (a = b) := ⟨_, rfl⟩
  rw [← hE]
  refine VC.body Try.func30 rfl Try.ntmps30 Try.call30 (h.grows_refl) rfl ?_; conv => whnf
  refine VCode.lp (fun k : Nat => [(0, ints a), (1, ints b), (4, B false), (7, I a.length), (8, I k)]) (fun _ => []) (fun k => k ≤ a.length ∧ k ≤ b.length ∧ E = decide (a.drop k = b.drop k)) (fun k => a.length - k) 0 ⟨Nat.zero_le _, Nat.zero_le _, hE⟩ ?_ ?_
  · conv => whnf
    refine Retell.turn ⟨[], 0, [], []⟩ (TurnOk.mk' _ _ [] [] (OutOk.lift _) rfl (by decide) zb trivial trivial rfl) zv zm
  · rintro k ⟨h1, h2, h3⟩
    conv => whnf
    refine VIte.dec (fun h4 => ?_) (fun h4 => ?_)
    · have hx : a[k]? = some a[k] := List.getElem?_eq_getElem (by omega)
      rcases Nat.eq_or_lt_of_le h2 with h5 | h5
      · have hF : E = false := by
          rw [h3, decide_eq_false_iff_not]
          intro hh
          have := congrArg List.length hh
          simp at this; omega
        rw [hF]
        conv => whnf
        repeat' (first | ((first | refine zs1 ?_ | refine zs2 ?_ | refine zs3 ?_ | refine zs4 ?_ | refine zs5 ?_ | refine zs6 [] ?_); conv => whnf) | ((first | apply zi1 | apply zi2 | apply zi3 | apply zi4 | apply zi5) <;> intro _ <;> conv => whnf))
        · exact VOut.same rfl
        all_goals omega
      · have hy : b[k]? = some b[k] := List.getElem?_eq_getElem h5
        rw [drop_eq_dec hx hy] at h3
        generalize a[k] = x at hx h3
        generalize b[k] = y at hy h3
        conv => whnf
        repeat' (first | ((first | refine zs1 ?_ | refine zs2 ?_ | refine zs3 ?_ | refine zs4 ?_ | refine zs5 ?_ | refine zs6 [] ?_); conv => whnf) | ((first | apply zi1 | apply zi2 | apply zi3 | apply zi4 | apply zi5) <;> intro _ <;> conv => whnf) | (refine VAny.ix encI_len k rfl rfl hx ?_; conv => whnf) | (refine VAny.ix encI_len k rfl rfl hy ?_; conv => whnf))
        all_goals (try omega)
        all_goals first
          | (rw [decide_eq_false (ne_I (by first | assumption | omega)), Bool.false_and] at h3; rw [h3]; exact VOut.same rfl)
          | (rw [decide_eq_true (eq_I (by first | assumption | omega)), Bool.true_and] at h3
             refine LEnd.intro (k + 1) ⟨by omega, by omega, h3⟩ (by omega) ?_
             conv => whnf
             refine Retell.turn ⟨[], 0, [], []⟩ (TurnOk.mk' _ _ [] [] (OutOk.lift _) rfl (by decide) zb trivial trivial rfl) zv zm)
    · have hk : k = a.length := by omega
      rw [h3, hk, List.drop_length]
      conv => whnf
      repeat' (first | ((first | refine zs1 ?_ | refine zs2 ?_ | refine zs3 ?_ | refine zs4 ?_ | refine zs5 ?_ | refine zs6 [] ?_); conv => whnf) | ((first | apply zi1 | apply zi2 | apply zi3 | apply zi4 | apply zi5) <;> intro _ <;> conv => whnf))
      refine VOut.same ?_
      have : ((a.length : Int) == b.length) = decide ([] = b.drop a.length) := by
        rw [Bool.eq_iff_iff, decide_eq_true_eq, beq_iff_eq]
        constructor
        · intro hh; rw [List.drop_of_length_le (by omega)]
        · intro hh
          have := congrArg List.length hh
          simp at this; omega
      simp only [V.ren, this]
theorem vc_equalS (a b : List Spn) (h : Hp) (ha : a.length ≤ 4000000) (hb : b.length ≤ 4000000) : VC Try.prog 34 [spans a, spans b] h (B (decide (a = b))) h := by
  obtain ⟨E, hE⟩ : ∃ E, E = decide (a = b) := ⟨_, rfl⟩
  rw [← hE]
  refine VC.body Try.func34 rfl Try.ntmps34 Try.call34 (h.grows_refl) rfl ?_; conv => whnf
  refine VCode.lp (fun k : Nat => [(0, spans a), (1, spans b), (4, B false), (7, I a.length), (8, I k)]) (fun _ => []) (fun k => k ≤ a.length ∧ k ≤ b.length ∧ E = decide (a.drop k = b.drop k)) (fun k => a.length - k) 0 ⟨Nat.zero_le _, Nat.zero_le _, hE⟩ ?_ ?_
  · conv => whnf
    refine Retell.turn ⟨[], 0, [], []⟩ (TurnOk.mk' _ _ [] [] (OutOk.lift _) rfl (by decide) zb trivial trivial rfl) zv zm
  · rintro k ⟨h1, h2, h3⟩
    conv => whnf
    refine VIte.dec (fun h4 => ?_) (fun h4 => ?_)
    · have hx : a[k]? = some a[k] := List.getElem?_eq_getElem (by omega)
      rcases Nat.eq_or_lt_of_le h2 with h5 | h5
      · have hF : E = false := by
          rw [h3, decide_eq_false_iff_not]
          intro hh
          have := congrArg List.length hh
          simp at this; omega
        rw [hF]
        conv => whnf
        repeat' (first | ((first | refine zs1 ?_ | refine zs2 ?_ | refine zs3 ?_ | refine zs4 ?_ | refine zs5 ?_ | refine zs6 [] ?_); conv => whnf) | ((first | apply zi1 | apply zi2 | apply zi3 | apply zi4 | apply zi5) <;> intro _ <;> conv => whnf))
        · exact VOut.same rfl
        all_goals omega
      · have hy : b[k]? = some b[k] := List.getElem?_eq_getElem h5
        rw [drop_eq_dec hx hy] at h3
        generalize a[k] = x at hx h3
        generalize b[k] = y at hy h3
        conv => whnf
        repeat' (first | ((first | refine zs1 ?_ | refine zs2 ?_ | refine zs3 ?_ | refine zs4 ?_ | refine zs5 ?_ | refine zs6 [] ?_); conv => whnf) | ((first | apply zi1 | apply zi2 | apply zi3 | apply zi4 | apply zi5) <;> intro _ <;> conv => whnf) | (refine VAny.ix encS_len k rfl rfl hx ?_; conv => whnf) | (refine VAny.ix encS_len k rfl rfl hy ?_; conv => whnf) | (refine VAgg.intro (vneqS _ _) ?_; conv => whnf))
        all_goals (try omega)
        all_goals first
          | (rw [decide_eq_false (ne_S (by first | assumption | omega)), Bool.false_and] at h3; rw [h3]; exact VOut.same rfl)
          | (rw [decide_eq_true (eq_S (by first | assumption | omega)), Bool.true_and] at h3
             refine LEnd.intro (k + 1) ⟨by omega, by omega, h3⟩ (by omega) ?_
             conv => whnf
             refine Retell.turn ⟨[], 0, [], []⟩ (TurnOk.mk' _ _ [] [] (OutOk.lift _) rfl (by decide) zb trivial trivial rfl) zv zm)
    · have hk : k = a.length := by omega
      rw [h3, hk, List.drop_length]
      conv => whnf
      repeat' (first | ((first | refine zs1 ?_ | refine zs2 ?_ | refine zs3 ?_ | refine zs4 ?_ | refine zs5 ?_ | refine zs6 [] ?_); conv => whnf) | ((first | apply zi1 | apply zi2 | apply zi3 | apply zi4 | apply zi5) <;> intro _ <;> conv => whnf))
      refine VOut.same ?_
      have : ((a.length : Int) == b.length) = decide ([] = b.drop a.length) := by
        rw [Bool.eq_iff_iff, decide_eq_true_eq, beq_iff_eq]
        constructor
        · intro hh; rw [List.drop_of_length_le (by omega)]
        · intro hh
          have := congrArg List.length hh
          simp at this; omega
      simp only [V.ren, this]
end Go.Proofs.Ytaodhdpopklipaa

open Go.Vm
namespace Go.Proofs.Ytaodhdpopklipaa
set_option maxRecDepth 20000
set_option maxHeartbeats 1000000
def datP (y : Int) : Pap := if y < 0 then ⟨1, -y, -y⟩ else ⟨0, y, y⟩
theorem vc_Dated (Y G : Int) (l : List Int) (h : Hp) (hl : l.length ≤ 4000000) (hb : ∀ y ∈ l, -100000 ≤ y ∧ y ≤ 100000) : VC Try.prog 26 [I Y, I G, ints l] h (vF ⟨Y, G, l.map datP⟩) h := by
  refine VC.body Try.func26 rfl Try.ntmps26 Try.call26 (h.grows_refl) rfl ?_; conv => whnf
  repeat (first | ((first | refine zs1 ?_ | refine zs2 ?_ | refine zs3 ?_ | refine zs4 ?_ | refine zs5 ?_ | refine zs6 [] ?_); conv => whnf))
  refine VCode.lp (fun k : Nat => [(6, .ptr (.loc 0) 0), (7, .ptr (.loc 1) 0), (14, ints l), (15, I l.length), (16, I k)])
    (fun k => [.flat true [DI 0, DI 0, .nilslice], .cells true [I Y, I G, .gl (.loc 2) 3 k], .flat true (((l.take k).map datP).flatMap encP)]) (fun k => k ≤ l.length) (fun k => l.length - k) 0 (Nat.zero_le _) ?_ ?_
  · conv => whnf
    refine Retell.turn ⟨[0,1,2], 2, [], []⟩ (TurnOk.mk' _ _ [] [] (OutOk.lift _) rfl (by decide) zb trivial trivial rfl) zv zm
  · intro k hk
    conv => whnf
    refine VIte.dec (fun h3 => ?_) (fun h3 => ?_)
    · have hp : l[k]? = some l[k] := List.getElem?_eq_getElem (by omega)
      have hts : l.take (k + 1) = l.take k ++ [l[k]] := by rw [List.take_add_one, hp]; rfl
      have hbk := hb l[k] (List.getElem_mem (by omega))
      generalize l[k] = y at hp hts hbk
      have hlk : ((l.take k).map datP).length = k := by simp; omega
      conv => whnf
      repeat' (first | ((first | refine zs1 ?_ | refine zs2 ?_ | refine zs3 ?_ | refine zs4 ?_ | refine zs5 ?_ | refine zs6 [] ?_); conv => whnf) | ((first | apply zi1 | apply zi2 | apply zi3 | apply zi4 | apply zi5) <;> intro _ <;> conv => whnf) | (refine VAny.ix encI_len k rfl rfl hp ?_; conv => whnf))
      · rename_i hy
        have hd : datP y = ⟨1, 0 - y, 0 - y⟩ := by rw [datP, if_pos hy]; simp
        refine VMem.app1 (l := (l.take k).map datP) (⟨1, 0 - y, 0 - y⟩ : Pap) encP_len rfl rfl rfl hlk.symm rfl (by omega) ?_
        conv => whnf
        repeat (first | ((first | refine zs1 ?_ | refine zs2 ?_ | refine zs3 ?_ | refine zs4 ?_ | refine zs5 ?_ | refine zs6 [] ?_); conv => whnf))
        refine LEnd.intro (k + 1) (by omega) (by omega) ?_
        conv => whnf
        rw [hts, List.map_append, List.map_cons, List.map_nil, hd]
        refine Retell.turn ⟨[0,1,5], 6, [], []⟩ (TurnOk.mk' _ _ [] [] (OutOk.lift _) rfl (by decide) zb trivial trivial rfl) zv zm
      · rename_i hy
        have hd : datP y = ⟨0, y, y⟩ := if_neg hy
        refine VMem.app1 (l := (l.take k).map datP) (⟨0, y, y⟩ : Pap) encP_len rfl rfl rfl hlk.symm rfl (by omega) ?_
        conv => whnf
        repeat (first | ((first | refine zs1 ?_ | refine zs2 ?_ | refine zs3 ?_ | refine zs4 ?_ | refine zs5 ?_ | refine zs6 [] ?_); conv => whnf))
        refine LEnd.intro (k + 1) (by omega) (by omega) ?_
        conv => whnf
        rw [hts, List.map_append, List.map_cons, List.map_nil, hd]
        refine Retell.turn ⟨[0,1,5], 6, [], []⟩ (TurnOk.mk' _ _ [] [] (OutOk.lift _) rfl (by decide) zb trivial trivial rfl) zv zm
    · have hk2 : k = l.length := by omega
      subst hk2
      rw [List.take_of_length_le (Nat.le_refl _)]
      rw [show vF ⟨Y, G, l.map datP⟩ = .agg [I Y, I G, .fs 3 l.length ((l.map datP).flatMap encP)] from by simp [vF, paps]]
      conv => whnf
      repeat (first | ((first | refine zs1 ?_ | refine zs2 ?_ | refine zs3 ?_ | refine zs4 ?_ | refine zs5 ?_ | refine zs6 [] ?_); conv => whnf))
      refine VOut.data 3 [(2, (l.map datP).flatMap encP)] [] rfl zf (by exact FmAll.nil) zv
end Go.Proofs.Ytaodhdpopklipaa

open Go.Vm
namespace Go.Proofs.Ytaodhdpopklipaa
set_option maxRecDepth 20000
set_option maxHeartbeats 1000000

theorem any_drop {α : Type} {q : α → Bool} {l : List α} {k : Nat} {x : α} (hx : l[k]? = some x) : (l.drop k).any q = (q x || (l.drop (k + 1)).any q) := by
  obtain ⟨h1, rfl⟩ := List.getElem?_eq_some_iff.1 hx
  rw [List.drop_eq_getElem_cons h1, List.any_cons]
end Go.Proofs.Ytaodhdpopklipaa

open Go.Vm
namespace Go.Proofs.Ytaodhdpopklipaa
set_option maxRecDepth 20000
set_option maxHeartbeats 1000000
def idxS (x : Int) : List Int → Int → Int
  | [], _ => -1
  | a :: r, i => if x = a then i else idxS x r (i + 1)
theorem idxS_at {x a : Int} {l : List Int} {k : Nat} (ha : l[k]? = some a) : idxS x (l.drop k) k = if x = a then (k : Int) else idxS x (l.drop (k + 1)) ((k + 1 : Nat) : Int) := by
  obtain ⟨h1, rfl⟩ := List.getElem?_eq_some_iff.1 ha
  rw [List.drop_eq_getElem_cons h1, idxS]; rfl
theorem idxS_mem (x : Int) : ∀ (l : List Int) (i : Int), 0 ≤ i → (0 ≤ idxS x l i ↔ x ∈ l)
  | [], i, _ => by simp [idxS]
  | a :: r, i, hi => by
    rw [idxS]
    split
    · rename_i h; subst h; simp [hi]
    · rename_i h
      rw [idxS_mem x r (i + 1) (by omega)]
      simp [h]
theorem vc_Index (l : List Int) (x : Int) (h : Hp) (hl : l.length ≤ 4000000) : VC Try.prog 20 [ints l, I x] h (I (idxS x l 0)) h := by
  obtain ⟨E, hE⟩ : ∃ E, E = idxS x l 0 := ⟨_, rfl⟩
  rw [← hE]
  refine VC.body Try.func20 rfl Try.ntmps20 Try.call20 (h.grows_refl) rfl ?_; conv => whnf
  repeat (first | ((first | refine zs1 ?_ | refine zs2 ?_ | refine zs3 ?_ | refine zs4 ?_ | refine zs5 ?_ | refine zs6 [] ?_); conv => whnf))
  refine VCode.lp (fun k : Nat => [(0, ints l), (1, I x), (7, I l.length), (8, I k)]) (fun _ => []) (fun k => k ≤ l.length ∧ E = idxS x (l.drop k) k) (fun k => l.length - k) 0 ⟨Nat.zero_le _, hE⟩ ?_ ?_
  · conv => whnf
    refine Retell.turn ⟨[], 0, [], []⟩ (TurnOk.mk' _ _ [] [] (OutOk.lift _) rfl (by decide) zb trivial trivial rfl) zv zm
  · rintro k ⟨h1, h2⟩
    conv => whnf
    refine VIte.dec (fun h3 => ?_) (fun h3 => ?_)
    · have ha : l[k]? = some l[k] := List.getElem?_eq_getElem (by omega)
      generalize l[k] = a at ha
      rw [idxS_at ha] at h2
      conv => whnf
      repeat' (first | ((first | refine zs1 ?_ | refine zs2 ?_ | refine zs3 ?_ | refine zs4 ?_ | refine zs5 ?_ | refine zs6 [] ?_); conv => whnf) | ((first | apply zi1 | apply zi2 | apply zi3 | apply zi4 | apply zi5) <;> intro _ <;> conv => whnf) | (refine VAny.ix encI_len k (by omega) rfl ha ?_; conv => whnf))
      · rw [if_pos (by omega)] at h2
        rw [h2]
        exact VOut.same rfl
      · rw [if_neg (by omega)] at h2
        refine LEnd.intro (k + 1) ⟨by omega, h2⟩ (by omega) ?_
        conv => whnf
        refine Retell.turn ⟨[], 0, [], []⟩ (TurnOk.mk' _ _ [] [] (OutOk.lift _) rfl (by decide) zb trivial trivial rfl) zv zm
    · rw [List.drop_of_length_le (by omega), idxS] at h2
      rw [h2]
      conv => whnf
      repeat (first | ((first | refine zs1 ?_ | refine zs2 ?_ | refine zs3 ?_ | refine zs4 ?_ | refine zs5 ?_ | refine zs6 [] ?_); conv => whnf))
      exact VOut.same rfl
theorem vc_Contains (l : List Int) (x : Int) (h : Hp) (hl : l.length ≤ 4000000) : VC Try.prog 10 [ints l, I x] h (B (decide (x ∈ l))) h := by
  have hm := idxS_mem x l 0 (Int.le_refl _)
  refine VC.body Try.func10 rfl Try.ntmps10 Try.call10 (h.grows_refl) rfl ?_; conv => whnf
  repeat' (first | ((first | refine zs1 ?_ | refine zs2 ?_ | refine zs3 ?_ | refine zs4 ?_ | refine zs5 ?_ | refine zs6 [] ?_); conv => whnf) | ((first | apply zi1 | apply zi2 | apply zi3 | apply zi4 | apply zi5) <;> intro _ <;> conv => whnf) | (refine VCall.intro (vc_Index l x _ hl) ?_; conv => whnf))
  refine VOut.dec ?_
  rw [decide_eq_true_eq]; exact hm
end Go.Proofs.Ytaodhdpopklipaa

open Go.Vm
namespace Go.Proofs.Ytaodhdpopklipaa
set_option maxRecDepth 20000
set_option maxHeartbeats 1000000

def minL : List Int → Int
  | [] => 0
  | a :: r => r.foldl min a
def maxL : List Int → Int
  | [] => 0
  | a :: r => r.foldl max a
theorem fold_snoc (g : Int → Int → Int) {l : List Int} {k : Nat} {x : Int} (a : Int) (hx : l[k]? = some x) : (l.take (k + 1)).foldl g a = g ((l.take k).foldl g a) x := by
  rw [List.take_add_one, hx]; simp
theorem vc_Min (a : Int) (r : List Int) (h : Hp) (hl : r.length ≤ 200000000) : VC Try.prog 72 [ints (a :: r)] h (I (minL (a :: r))) h := by
  have h0 : (a :: r)[0]? = some a := rfl
  have hle : (a :: r).length = r.length + 1 := rfl
  rw [minL]
  refine VC.body Try.func72 rfl Try.ntmps72 Try.call72 (h.grows_refl) rfl ?_; conv => whnf
  repeat' (first | ((first | refine zs1 ?_ | refine zs2 ?_ | refine zs3 ?_ | refine zs4 ?_ | refine zs5 ?_ | refine zs6 [] ?_); conv => whnf) | ((first | apply zi1 | apply zi2 | apply zi3 | apply zi4 | apply zi5) <;> intro _ <;> conv => whnf) | (refine VAny.ix encI_len 0 (by omega) rfl h0 ?_; conv => whnf))
  refine VCode.lp (fun k : Nat => [(0, ints (a :: r)), (3, I ((r.take k).foldl min a)), (4, I (k + 1 : Nat))]) (fun _ => []) (fun k => k ≤ r.length) (fun k => r.length - k) 0 (Nat.zero_le _) ?_ ?_
  · conv => whnf
    refine Retell.turn ⟨[], 0, [], []⟩ (TurnOk.mk' _ _ [] [] (OutOk.lift _) rfl (by decide) zb trivial trivial rfl) zv zm
  · rintro k hk
    conv => whnf
    refine VIte.dec (fun h3 => ?_) (fun h3 => ?_)
    · have hx : r[k]? = some r[k] := List.getElem?_eq_getElem (by omega)
      have hf := fold_snoc min a hx
      generalize r[k] = x at hx hf
      have hx' : (a :: r)[k + 1]? = some x := hx
      conv => whnf
      repeat' (first | ((first | refine zs1 ?_ | refine zs2 ?_ | refine zs3 ?_ | refine zs4 ?_ | refine zs5 ?_ | refine zs6 [] ?_); conv => whnf) | ((first | apply zi1 | apply zi2 | apply zi3 | apply zi4 | apply zi5) <;> intro _ <;> conv => whnf) | (refine VAny.ix encI_len (k + 1) (by omega) rfl hx' ?_; conv => whnf))
      refine LEnd.intro (k + 1) (by omega) (by omega) ?_
      conv => whnf
      rw [hf]
      refine Retell.turn ⟨[], 0, [], []⟩ (TurnOk.mk' _ _ [] [] (OutOk.lift _) rfl (by decide) zb trivial trivial rfl) zv zm
    · conv => whnf
      repeat (first | ((first | refine zs1 ?_ | refine zs2 ?_ | refine zs3 ?_ | refine zs4 ?_ | refine zs5 ?_ | refine zs6 [] ?_); conv => whnf))
      rw [List.take_of_length_le (by omega)]
      exact VOut.same rfl
theorem vc_Max (a : Int) (r : List Int) (h : Hp) (hl : r.length ≤ 200000000) : VC Try.prog 63 [ints (a :: r)] h (I (maxL (a :: r))) h := by
  have h0 : (a :: r)[0]? = some a := rfl
  have hle : (a :: r).length = r.length + 1 := rfl
  rw [maxL]
  refine VC.body Try.func63 rfl Try.ntmps63 Try.call63 (h.grows_refl) rfl ?_; conv => whnf
  repeat' (first | ((first | refine zs1 ?_ | refine zs2 ?_ | refine zs3 ?_ | refine zs4 ?_ | refine zs5 ?_ | refine zs6 [] ?_); conv => whnf) | ((first | apply zi1 | apply zi2 | apply zi3 | apply zi4 | apply zi5) <;> intro _ <;> conv => whnf) | (refine VAny.ix encI_len 0 (by omega) rfl h0 ?_; conv => whnf))
  refine VCode.lp (fun k : Nat => [(0, ints (a :: r)), (3, I ((r.take k).foldl max a)), (4, I (k + 1 : Nat))]) (fun _ => []) (fun k => k ≤ r.length) (fun k => r.length - k) 0 (Nat.zero_le _) ?_ ?_
  · conv => whnf
    refine Retell.turn ⟨[], 0, [], []⟩ (TurnOk.mk' _ _ [] [] (OutOk.lift _) rfl (by decide) zb trivial trivial rfl) zv zm
  · rintro k hk
    conv => whnf
    refine VIte.dec (fun h3 => ?_) (fun h3 => ?_)
    · have hx : r[k]? = some r[k] := List.getElem?_eq_getElem (by omega)
      have hf := fold_snoc max a hx
      generalize r[k] = x at hx hf
      have hx' : (a :: r)[k + 1]? = some x := hx
      conv => whnf
      repeat' (first | ((first | refine zs1 ?_ | refine zs2 ?_ | refine zs3 ?_ | refine zs4 ?_ | refine zs5 ?_ | refine zs6 [] ?_); conv => whnf) | ((first | apply zi1 | apply zi2 | apply zi3 | apply zi4 | apply zi5) <;> intro _ <;> conv => whnf) | (refine VAny.ix encI_len (k + 1) (by omega) rfl hx' ?_; conv => whnf))
      refine LEnd.intro (k + 1) (by omega) (by omega) ?_
      conv => whnf
      rw [hf]
      refine Retell.turn ⟨[], 0, [], []⟩ (TurnOk.mk' _ _ [] [] (OutOk.lift _) rfl (by decide) zb trivial trivial rfl) zv zm
    · conv => whnf
      repeat (first | ((first | refine zs1 ?_ | refine zs2 ?_ | refine zs3 ?_ | refine zs4 ?_ | refine zs5 ?_ | refine zs6 [] ?_); conv => whnf))
      rw [List.take_of_length_le (by omega)]
      exact VOut.same rfl
theorem vc_least (l : List Int) (h : Hp) (hl : l.length ≤ 200000000) : VC Try.prog 61 [ints l] h (I (minL l)) h := by
  cases l with
  | nil =>
    refine VC.body Try.func61 rfl Try.ntmps61 Try.call61 (h.grows_refl) rfl ?_; conv => whnf
    repeat' (first | ((first | refine zs1 ?_ | refine zs2 ?_ | refine zs3 ?_ | refine zs4 ?_ | refine zs5 ?_ | refine zs6 [] ?_); conv => whnf) | ((first | apply zi1 | apply zi2 | apply zi3 | apply zi4 | apply zi5) <;> intro _ <;> conv => whnf))
    · exact VOut.same rfl
    all_goals (rename_i h1; exact absurd rfl h1)
  | cons a r =>
    have hle : (a :: r).length = r.length + 1 := rfl
    refine VC.body Try.func61 rfl Try.ntmps61 Try.call61 (h.grows_refl) rfl ?_; conv => whnf
    repeat' (first | ((first | refine zs1 ?_ | refine zs2 ?_ | refine zs3 ?_ | refine zs4 ?_ | refine zs5 ?_ | refine zs6 [] ?_); conv => whnf) | ((first | apply zi1 | apply zi2 | apply zi3 | apply zi4 | apply zi5) <;> intro _ <;> conv => whnf) | (refine VCall.intro (vc_Min a r _ (by omega)) ?_; conv => whnf))
    exact VOut.same rfl
theorem vc_most (a : Int) (r : List Int) (h : Hp) (hl : r.length ≤ 200000000) : VC Try.prog 62 [ints (a :: r)] h (I (maxL (a :: r))) h := by
  refine VC.body Try.func62 rfl Try.ntmps62 Try.call62 (h.grows_refl) rfl ?_; conv => whnf
  repeat' (first | ((first | refine zs1 ?_ | refine zs2 ?_ | refine zs3 ?_ | refine zs4 ?_ | refine zs5 ?_ | refine zs6 [] ?_); conv => whnf) | ((first | apply zi1 | apply zi2 | apply zi3 | apply zi4 | apply zi5) <;> intro _ <;> conv => whnf) | (refine VCall.intro (vc_Max a r _ (by omega)) ?_; conv => whnf))
  exact VOut.same rfl
structure End where
  i : Int
  year : Int
  first : Int
  side : Int
  since : Int
  deriving DecidableEq
def encE (e : End) : List D := [DI e.i, DI e.year, DI e.first, DI e.side, DI e.since]
theorem encE_len (e : End) : (encE e).length = 5 := rfl
def ends (l : List End) : V := .fs 5 l.length (l.flatMap encE)
def aggE (e : End) : V := .agg [I e.i, I e.year, I e.first, I e.side, I e.since]
def fidx (q : End → Bool) : List End → Int → Int
  | [], _ => -1
  | a :: r, i => bif q a then i else fidx q r (i + 1)
theorem fidx_at {q : End → Bool} {a : End} {l : List End} {k : Nat} (ha : l[k]? = some a) : fidx q (l.drop k) k = bif q a then (k : Int) else fidx q (l.drop (k + 1)) ((k + 1 : Nat) : Int) := by
  obtain ⟨h1, rfl⟩ := List.getElem?_eq_some_iff.1 ha
  rw [List.drop_eq_getElem_cons h1, fidx]; rfl
theorem vc_IndexFunc (l : List End) (q : End → Bool) (g : FuncId) (caps : List D) (hl : l.length ≤ 200000000) (hso : ∀ (e : End) (h : Hp), VC Try.prog g ([aggE e] ++ D.vs caps) h (B (q e)) h) (h : Hp) :
    VC Try.prog 59 [ends l, .func (.func g) [] (D.vs caps)] h (I (fidx q l 0)) h := by
  obtain ⟨E, hE⟩ : ∃ E, E = fidx q l 0 := ⟨_, rfl⟩
  rw [← hE]
  refine VC.body Try.func59 rfl Try.ntmps59 Try.call59 (h.grows_refl) rfl ?_; conv => whnf
  rw [rens_dvs]
  refine VCode.lp (fun k : Nat => [(0, ends l), (1, .func (.func g) [] (D.vs caps)), (7, I l.length), (8, I k)]) (fun _ => []) (fun k => k ≤ l.length ∧ E = fidx q (l.drop k) k) (fun k => l.length - k) 0 ⟨Nat.zero_le _, hE⟩ ?_ ?_
  · conv => whnf
    refine Retell.turn ⟨[], 0, [], []⟩ (TurnOk.mk' _ _ [] [] (OutOk.lift _) rfl (by decide) zb trivial trivial rfl) zv zm
  · rintro k ⟨h1, h2⟩
    conv => whnf
    refine VIte.dec (fun h3 => ?_) (fun h3 => ?_)
    · have ha : l[k]? = some l[k] := List.getElem?_eq_getElem (by omega)
      generalize l[k] = a at ha
      rw [fidx_at ha] at h2
      conv => whnf
      repeat' (first | ((first | refine zs1 ?_ | refine zs2 ?_ | refine zs3 ?_ | refine zs4 ?_ | refine zs5 ?_ | refine zs6 [] ?_); conv => whnf) | ((first | apply zi1 | apply zi2 | apply zi3 | apply zi4 | apply zi5) <;> intro _ <;> conv => whnf) | (refine VAny.ix encE_len k (by omega) rfl ha ?_; conv => whnf))
      refine VCall.intro (hso a _) ?_
      conv => whnf
      cases hq : q a
      · rw [hq] at h2
        conv => whnf
        repeat (first | ((first | refine zs1 ?_ | refine zs2 ?_ | refine zs3 ?_ | refine zs4 ?_ | refine zs5 ?_ | refine zs6 [] ?_); conv => whnf))
        refine LEnd.intro (k + 1) ⟨by omega, h2⟩ (by omega) ?_
        conv => whnf
        refine Retell.turn ⟨[], 0, [], []⟩ (TurnOk.mk' _ _ [] [] (OutOk.lift _) rfl (by decide) zb trivial trivial rfl) zv zm
      · rw [hq] at h2
        rw [h2]
        conv => whnf
        repeat (first | ((first | refine zs1 ?_ | refine zs2 ?_ | refine zs3 ?_ | refine zs4 ?_ | refine zs5 ?_ | refine zs6 [] ?_); conv => whnf))
        exact VOut.same rfl
    · rw [List.drop_of_length_le (by omega), fidx] at h2
      rw [h2]
      conv => whnf
      repeat (first | ((first | refine zs1 ?_ | refine zs2 ?_ | refine zs3 ?_ | refine zs4 ?_ | refine zs5 ?_ | refine zs6 [] ?_); conv => whnf))
      exact VOut.same rfl
theorem vc_Truth1 (s : Int) (e : End) (h : Hp) : VC Try.prog 60 [aggE e, .fp [DI s]] h (B (decide (e.side = s))) h := by
  refine VC.body Try.func60 rfl Try.ntmps60 Try.call60 (h.grows_refl) rfl ?_; conv => whnf
  repeat' (first | ((first | refine zs1 ?_ | refine zs2 ?_ | refine zs3 ?_ | refine zs4 ?_ | refine zs5 ?_ | refine zs6 [] ?_); conv => whnf) | ((first | apply zi1 | apply zi2 | apply zi3 | apply zi4 | apply zi5) <;> intro _ <;> conv => whnf))
  all_goals (refine VOut.dec ?_; first | (simp only [decide_eq_true_eq]; omega) | (simp; omega) | (simp; done))
end Go.Proofs.Ytaodhdpopklipaa

open Go.Vm
namespace Go.Proofs.Ytaodhdpopklipaa
set_option maxRecDepth 20000
set_option maxHeartbeats 1000000

def yrs (p : Pap) : List Int := (List.range (p.hi - p.lo + 1).toNat).map fun k : Nat => p.lo + (k : Int)
def ext1 (p : Pap) (ts : List (List Int)) : List (List Int) := ts.flatMap fun t => (yrs p).map fun y => t ++ [y]
def tru (ps : List Pap) : List (List Int) := ps.foldl (fun ts p => ext1 p ts) [[]]
theorem tru_snoc {ps : List Pap} {k : Nat} {p : Pap} (hp : ps[k]? = some p) : tru (ps.take (k + 1)) = ext1 p (tru (ps.take k)) := by
  rw [tru, List.take_add_one, hp]; simp [tru]
end Go.Proofs.Ytaodhdpopklipaa

open Go.Vm
namespace Go.Proofs.Ytaodhdpopklipaa
set_option maxRecDepth 20000
set_option maxHeartbeats 1000000

theorem holdsS_of : ∀ {ps : List Pap} {t : List Int}, (∀ (i : Nat) p y, ps[i]? = some p → t[i]? = some y → p.lo ≤ y ∧ y ≤ p.hi) → holdsS ps t = true
  | [], t, _ => by cases t <;> simp [holdsS]
  | p :: ps, [], _ => by simp [holdsS]
  | p :: ps, y :: t, h => by
    rw [holdsS, decide_eq_true (h 0 p y rfl rfl), Bool.true_and]
    exact holdsS_of fun i q z h1 h2 => h (i + 1) q z (by simpa using h1) (by simpa using h2)
theorem mem_yrs {p : Pap} {y : Int} : y ∈ yrs p ↔ p.lo ≤ y ∧ y ≤ p.hi := by
  unfold yrs
  rw [List.mem_map]
  constructor
  · rintro ⟨k, h1, rfl⟩
    rw [List.mem_range] at h1; omega
  · intro h
    exact ⟨(y - p.lo).toNat, by rw [List.mem_range]; omega, by omega⟩
theorem tru_take {ps : List Pap} : ∀ {k : Nat}, k ≤ ps.length → ∀ t, t ∈ tru (ps.take k) ↔ t.length = k ∧ ∀ (i : Nat) p y, ps[i]? = some p → t[i]? = some y → p.lo ≤ y ∧ y ≤ p.hi
  | 0, _, t => by
    have : tru (ps.take 0) = [[]] := rfl
    rw [this, List.mem_singleton]
    constructor
    · rintro rfl; exact ⟨rfl, fun i p y _ h => by simp at h⟩
    · rintro ⟨h, _⟩; exact List.length_eq_zero_iff.1 h
  | k + 1, hk, t => by
    have hp : ps[k]? = some ps[k] := List.getElem?_eq_getElem (by omega)
    rw [tru_snoc hp]
    generalize ps[k] = q at hp
    simp only [ext1, List.mem_flatMap, List.mem_map]
    constructor
    · rintro ⟨t0, h1, y, h2, rfl⟩
      obtain ⟨h3, h4⟩ := (tru_take (by omega) t0).1 h1
      refine ⟨by simp [h3], fun i p z hp2 hz => ?_⟩
      rcases Nat.lt_trichotomy i k with h5 | h5 | h5
      · rw [List.getElem?_append_left (by omega)] at hz; exact h4 i p z hp2 hz
      · subst h5
        rw [hp] at hp2; cases hp2
        rw [List.getElem?_append_right (by omega), h3] at hz
        simp at hz; subst hz
        exact mem_yrs.1 h2
      · rw [List.getElem?_eq_none (by simp; omega)] at hz; cases hz
    · rintro ⟨h1, h2⟩
      have hy : t[k]? = some t[k] := List.getElem?_eq_getElem (by omega)
      refine ⟨t.take k, (tru_take (by omega) _).2 ⟨by simp; omega, fun i p z hp2 hz => ?_⟩, t[k], mem_yrs.2 (h2 k q _ hp hy), ?_⟩
      · rw [List.getElem?_take] at hz
        split at hz
        · exact h2 i p z hp2 hz
        · cases hz
      · have e9 : t.take (k + 1) = t.take k ++ [t[k]] := by rw [List.take_add_one, hy]; rfl
        rw [← e9, List.take_of_length_le (by omega)]
theorem mem_tru {ps : List Pap} {t : List Int} : t ∈ tru ps ↔ t.length = ps.length ∧ holdsS ps t = true := by
  have := tru_take (ps := ps) (Nat.le_refl _) t
  rw [List.take_of_length_le (Nat.le_refl _)] at this
  rw [this]
  constructor
  · rintro ⟨h1, h2⟩; exact ⟨h1, holdsS_of h2⟩
  · rintro ⟨h1, h2⟩; exact ⟨h1, fun i p y hp hy => holdsS_get h2 hp hy⟩
theorem tru_okt {f : Fil} (h : chk f = 0) {t : List Int} (ht : t ∈ tru f.ps) : Okt f t := by
  obtain ⟨a, b, c, d⟩ := chk_zero h
  obtain ⟨h1, h2⟩ := mem_tru.1 ht
  exact ⟨a, b, c, h1, d, h2⟩
def isOwn (f : Fil) (x : Int) : Bool := (tru f.ps).any fun t => decide ((own f t).1 = x)
def osL (f : Fil) : List Int := selS (fun k => isOwn f k) 3
end Go.Proofs.Ytaodhdpopklipaa

open Go.Vm
namespace Go.Proofs.Ytaodhdpopklipaa
set_option maxRecDepth 20000
set_option maxHeartbeats 1000000

theorem mem_selS {q : Nat → Bool} {x : Int} : ∀ {k : Nat}, x ∈ selS q k ↔ ∃ j : Nat, j < k ∧ x = j ∧ q j = true
  | 0 => by simp [selS]
  | k + 1 => by
    rw [selS]
    constructor
    · intro h
      split at h
      · rename_i hq
        rcases List.mem_append.1 h with h | h
        · obtain ⟨j, h1, h2, h3⟩ := mem_selS.1 h; exact ⟨j, by omega, h2, h3⟩
        · rw [List.mem_singleton] at h; exact ⟨k, by omega, h, hq⟩
      · obtain ⟨j, h1, h2, h3⟩ := mem_selS.1 h; exact ⟨j, by omega, h2, h3⟩
    · rintro ⟨j, h1, h2, h3⟩
      rcases Nat.eq_or_lt_of_le (Nat.le_of_lt_succ h1) with h4 | h4
      · subst h4; rw [if_pos h3]; simp [h2]
      · have := mem_selS.2 ⟨j, h4, h2, h3⟩
        split
        · simp [this]
        · exact this
theorem mem_osL {f : Fil} {x : Int} (h : 0 ≤ x ∧ x ≤ 2) : x ∈ osL f ↔ isOwn f x = true := by
  unfold osL
  rw [mem_selS]
  constructor
  · rintro ⟨j, _, rfl, hq⟩; exact hq
  · intro hq; exact ⟨x.toNat, by omega, by omega, by rw [show ((x.toNat : Nat) : Int) = x by omega]; exact hq⟩
end Go.Proofs.Ytaodhdpopklipaa

open Go.Vm
namespace Go.Proofs.Ytaodhdpopklipaa
set_option maxRecDepth 20000
set_option maxHeartbeats 1000000

structure Sn where
  found : Bool
  lo : Int
  hi : Int
def snF (f : Fil) (x : Int) (s : Sn) (t : List Int) : Sn :=
  if (own f t).1 = x then ⟨true, if s.found = false ∨ (own f t).2 < s.lo then (own f t).2 else s.lo, if s.found = false ∨ s.hi < (own f t).2 then (own f t).2 else s.hi⟩ else s
def sn (f : Fil) (x : Int) : Sn := (tru f.ps).foldl (snF f x) ⟨false, 0, 0⟩
def sinceE (f : Fil) (x : Int) : Int := if chk f ≠ 0 then chk f else if x < 0 ∨ 1 < x then 4 else bif (sn f x).found then 0 else 7
def sinceR (f : Fil) (x : Int) : V := .tuple [bif decide (sinceE f x = 0) then .agg [I (sn f x).lo, I (sn f x).hi] else .agg [I 0, I 0], I (sinceE f x)]
end Go.Proofs.Ytaodhdpopklipaa

open Go.Vm
namespace Go.Proofs.Ytaodhdpopklipaa
set_option maxRecDepth 20000
set_option maxHeartbeats 1000000

def aggP (p : Pap) : V := .agg [I p.side, I p.lo, I p.hi]
theorem vc_years (p : Pap) (h : Hp) : VC Try.prog 38 [aggP p] h (.func (.func 66) [] [.fp (encP p)]) h := by
  refine VC.body Try.func38 rfl Try.ntmps38 Try.call38 (h.grows_refl) rfl ?_; conv => whnf
  repeat (first | ((first | refine zs1 ?_ | refine zs2 ?_ | refine zs3 ?_ | refine zs4 ?_ | refine zs5 ?_ | refine zs6 [] ?_); conv => whnf))
  refine VOut.data 1 [(0, encP p)] [] rfl zf (by exact FmAll.nil) zv
end Go.Proofs.Ytaodhdpopklipaa

open Go.Vm
namespace Go.Proofs.Ytaodhdpopklipaa
set_option maxRecDepth 20000
set_option maxHeartbeats 1000000

theorem vc_years1 (p : Pap) (hlo : -1000000 ≤ p.lo) (hhi : p.hi ≤ 1000000) : Iter Try.prog 66 [.fp (encP p)] (p.hi - p.lo + 1).toNat (fun j => I (p.lo + j)) := by
  intro h i J hs h0
  obtain ⟨g, g0, g1, g2⟩ := iter_seq hs h0
  obtain ⟨M, hM⟩ : ∃ M, M = (p.hi - p.lo + 1).toNat := ⟨_, rfl⟩
  rw [← hM] at g1 g2 ⊢
  have hgr : ∀ j, j ≤ M → h.grows (g j) := by
    intro j
    induction j with
    | zero => intro _; rw [g0]; exact h.grows_refl
    | succ j ih => intro hj; exact fun k hk => (g2 j (by omega)).1 k (ih (by omega) k hk)
  refine ⟨g M, ?_, g1 M (Nat.le_refl _)⟩
  refine VC.body Try.func66 rfl Try.ntmps66 Try.call66 (hgr M (Nat.le_refl _)) rfl ?_
  conv => whnf
  repeat (first | ((first | refine zs1 ?_ | refine zs2 ?_ | refine zs3 ?_ | refine zs4 ?_ | refine zs5 ?_ | refine zs6 [] ?_); conv => whnf))
  refine VCode.lpo (fun k : Nat => [(0, .yld (.out i)), (1, .fp (encP p)), (3, I (p.lo + k))]) (fun k => (g k).lift) (fun _ => []) (fun k => k ≤ M) (fun k => M - k) 0 (Nat.zero_le _) (by rw [g0]) ?_ ?_
  · conv => whnf
    refine Retell.turn ⟨[], 0, [], []⟩ (TurnOk.mk' _ _ [] [] (OutOk.lift _) rfl (by decide) zb trivial trivial rfl) zv zm
  · rintro k hk
    conv => whnf
    repeat' (first | ((first | refine zs1 ?_ | refine zs2 ?_ | refine zs3 ?_ | refine zs4 ?_ | refine zs5 ?_ | refine zs6 [] ?_); conv => whnf) | ((first | apply zi1 | apply zi2 | apply zi3 | apply zi4 | apply zi5) <;> intro _ <;> conv => whnf) | (refine VYield.intro (VY.lift [] (g2 k (by omega))) ?_; conv => whnf))
    · refine LEndO.intro (k + 1) (by omega) (by omega) rfl ?_
      conv => whnf
      refine Retell.turn ⟨[], 0, [], []⟩ (TurnOk.mk' _ _ [] [] (OutOk.lift _) rfl (by decide) zb trivial trivial rfl) zv zm
    · have hkM : k = M := by omega
      subst hkM
      exact VOut.lifted (r := .tuple []) (hgr k (Nat.le_refl _))
end Go.Proofs.Ytaodhdpopklipaa

open Go.Vm
namespace Go.Proofs.Ytaodhdpopklipaa
set_option maxRecDepth 20000
set_option maxHeartbeats 1000000

abbrev AL := List (End × End)
def hasK (a : AL) (e : End) : Bool := a.any fun x => decide (x.1 = e)
def alGet (a : AL) (e : End) : Option End := (a.find? fun x => decide (x.1 = e)).map (·.2)
def goesB (f : Fil) (i : Nat) (y a : Int) : Bool := decide (0 < i ∧ sdAt f i = sdAt f (i - 1) ∧ y - a ≤ f.G)
def isE (f : Fil) (i : Nat) (p : Pap) (was : End) (y : Int) : End :=
  bif decide (¬ (bif goesB f i y was.year then was.first else y) = -1 ∧ f.Y ≤ y - (bif goesB f i y was.year then was.first else y)) then ⟨i, y, -1, p.side, y⟩
  else ⟨i, y, bif goesB f i y was.year then was.first else y, was.side, was.since⟩
def gY (f : Fil) (i : Nat) (p : Pap) (was : End) (s : AL × List End) (y : Int) : AL × List End :=
  bif hasK s.1 (isE f i p was y) then s else (s.1 ++ [(isE f i p was y, was)], s.2 ++ [isE f i p was y])
def gYs (f : Fil) (i : Nat) (p : Pap) (was : End) (s : AL × List End) : Nat → AL × List End
  | 0 => s
  | k + 1 => gY f i p was (gYs f i p was s k) (p.lo + k)
def gW (f : Fil) (i : Nat) (p : Pap) (s : AL × List End) (was : End) : AL × List End := gYs f i p was s (p.hi - p.lo + 1).toNat
def gP (f : Fil) : List Pap → Nat → AL × List End → AL × List End
  | [], _, s => s
  | p :: r, i, s => gP f r (i + 1) (s.2.foldl (gW f i p) (s.1, []))
def beg : End := ⟨-1, 0, 0, 2, 0⟩
def gone (f : Fil) : AL × List End := gP f f.ps 0 ([], [beg])
theorem gP_at {f : Fil} {ps : List Pap} {k : Nat} {p : Pap} {s : AL × List End} (h : ps[k]? = some p) : gP f (ps.drop k) k s = gP f (ps.drop (k + 1)) (k + 1) (s.2.foldl (gW f k p) (s.1, [])) := by
  obtain ⟨hlt, rfl⟩ := List.getElem?_eq_some_iff.1 h
  rw [List.drop_eq_getElem_cons hlt, gP]
theorem gW_at {f : Fil} {i : Nat} {p : Pap} {now : List End} {j : Nat} {w : End} {s : AL × List End} (h : now[j]? = some w) : (now.drop j).foldl (gW f i p) s = (now.drop (j + 1)).foldl (gW f i p) (gW f i p s w) := by
  obtain ⟨hlt, rfl⟩ := List.getElem?_eq_some_iff.1 h
  rw [List.drop_eq_getElem_cons hlt, List.foldl_cons]
/-! ### How many there can be -/

theorem nodup_bd : ∀ (M : Nat) (l : List Nat), l.Nodup → (∀ x ∈ l, x < M) → l.length ≤ M
  | 0, l, _, h => by
    cases l with
    | nil => simp
    | cons a l => exact absurd (h a (by simp)) (by omega)
  | M + 1, l, hn, h => by
    have ih := nodup_bd M (l.erase M) (hn.erase M) (fun x hx => by
      have h1 := (List.Nodup.mem_erase_iff hn).1 hx
      have h2 := h x h1.2
      have h3 := h1.1
      omega)
    by_cases hm : M ∈ l
    · rw [List.length_erase_of_mem hm] at ih; omega
    · rw [List.erase_of_not_mem hm] at ih; omega
structure EOk (e : End) : Prop where
  year : 0 ≤ e.year ∧ e.year ≤ 3000
  first : -1 ≤ e.first ∧ e.first ≤ 3000
  side : 0 ≤ e.side ∧ e.side ≤ 2
  since : 0 ≤ e.since ∧ e.since ≤ 3000
structure GI (i : Int) (p : Pap) (s : AL × List End) : Prop where
  ok : ∀ e ∈ s.2, EOk e
  at_ : ∀ e ∈ s.2, e.i = i ∧ p.lo ≤ e.year ∧ e.year ≤ p.lo + 3
  nodup : s.2.Nodup
  has : ∀ e ∈ s.2, hasK s.1 e = true
theorem GI.len {i : Int} {p : Pap} {s : AL × List End} (g : GI i p s) : s.2.length ≤ 108108024 := by
  let c : End → Nat := fun e => (((e.year - p.lo).toNat * 3002 + (e.first + 1).toNat) * 3 + e.side.toNat) * 3001 + e.since.toNat
  have h1 : (s.2.map c).Nodup := by
    unfold List.Nodup
    rw [List.pairwise_map]
    refine List.Pairwise.imp_of_mem ?_ g.nodup
    intro a b ha hb hab hc
    apply hab
    obtain ⟨a1, a2, a3, a4⟩ := g.ok a ha
    obtain ⟨b1, b2, b3, b4⟩ := g.ok b hb
    obtain ⟨a5, a6, a7⟩ := g.at_ a ha
    obtain ⟨b5, b6, b7⟩ := g.at_ b hb
    obtain ⟨i1, y1, f1, s1, n1⟩ := a
    obtain ⟨i2, y2, f2, s2, n2⟩ := b
    simp only [c] at *
    have e1 : n1 = n2 := by omega
    have e2 : s1 = s2 := by omega
    have e3 : f1 = f2 := by omega
    have e4 : y1 = y2 := by omega
    rw [e1, e2, e3, e4, a5, b5]
  have h2 : ∀ x ∈ s.2.map c, x < 108108024 := by
    intro x hx
    obtain ⟨a, ha, rfl⟩ := List.mem_map.1 hx
    obtain ⟨a1, a2, a3, a4⟩ := g.ok a ha
    obtain ⟨a5, a6, a7⟩ := g.at_ a ha
    simp only [c]
    omega
  have := nodup_bd 108108024 _ h1 h2
  simpa using this
theorem isE_ok {f : Fil} {i : Nat} {p : Pap} {was : End} {y : Int} (hp : p.side = 0 ∨ p.side = 1) (hw : EOk was) (hy : 0 ≤ y ∧ y ≤ 3000) : EOk (isE f i p was y) ∧ (isE f i p was y).i = i ∧ (isE f i p was y).year = y := by
  obtain ⟨a1, a2, a3, a4⟩ := hw
  unfold isE
  obtain ⟨st, hst⟩ : ∃ st, st = (bif goesB f i y was.year then was.first else y) := ⟨_, rfl⟩
  have hb : -1 ≤ st ∧ st ≤ 3000 := by rw [hst]; cases goesB f i y was.year <;> simp only [cond_true, cond_false] <;> omega
  rw [← hst]
  cases decide (¬ st = -1 ∧ f.Y ≤ y - st) <;> simp only [cond_true, cond_false] <;> exact ⟨⟨by simp only; omega, by simp only; omega, by simp only; omega, by simp only; omega⟩, trivial, trivial⟩
theorem hasK_snoc (a : AL) (e v x : End) : hasK (a ++ [(e, v)]) x = (hasK a x || decide (e = x)) := by simp [hasK]
theorem GI.gY {f : Fil} {i : Nat} {p : Pap} {s : AL × List End} {was : End} {y : Int} (g : GI i p s) (hp : p.side = 0 ∨ p.side = 1) (hw : EOk was) (hy : 0 ≤ y ∧ y ≤ 3000) (hy2 : p.lo ≤ y ∧ y ≤ p.lo + 3) : GI i p (gY f i p was s y) := by
  obtain ⟨h1, h2, h3⟩ := isE_ok (f := f) (i := i) (y := y) hp hw hy
  unfold Ytaodhdpopklipaa.gY
  generalize isE f i p was y = E at h1 h2 h3
  cases hk : hasK s.1 E
  · refine ⟨?_, ?_, ?_, ?_⟩
    · intro e he
      simp only [cond_false, List.mem_append, List.mem_singleton] at he
      rcases he with he | rfl
      · exact g.ok e he
      · exact h1
    · intro e he
      simp only [cond_false, List.mem_append, List.mem_singleton] at he
      rcases he with he | rfl
      · exact g.at_ e he
      · exact ⟨h2, by omega, by omega⟩
    · simp only [cond_false]
      rw [List.nodup_append]
      refine ⟨g.nodup, by simp, ?_⟩
      intro a ha b hb hab
      rw [List.mem_singleton] at hb
      have := g.has a ha
      rw [hab, hb, hk] at this; cases this
    · intro e he
      simp only [cond_false, List.mem_append, List.mem_singleton] at he ⊢
      rw [hasK_snoc]
      rcases he with he | rfl
      · rw [g.has e he]; rfl
      · simp
  · exact g
theorem GI.gYs {f : Fil} {i : Nat} {p : Pap} {s : AL × List End} {was : End} (g : GI i p s) (hp : p.side = 0 ∨ p.side = 1) (hw : EOk was) (h0 : 0 ≤ p.lo) (h1 : p.hi ≤ 3000) (h2 : p.hi ≤ p.lo + 3) : ∀ k, k ≤ (p.hi - p.lo + 1).toNat → GI i p (gYs f i p was s k)
  | 0, _ => g
  | k + 1, hk => by
    rw [Ytaodhdpopklipaa.gYs]
    exact (GI.gYs g hp hw h0 h1 h2 k (by omega)).gY hp hw (by omega) (by omega)
structure POk (p : Pap) : Prop where
  side : p.side = 0 ∨ p.side = 1
  lo : 0 ≤ p.lo
  hi : p.hi ≤ 3000
  le : p.lo ≤ p.hi
  near : p.hi ≤ p.lo + 3
theorem chk_pok {f : Fil} (h : chk f = 0) : ∀ p ∈ f.ps, POk p := by
  obtain ⟨_, _, _, d⟩ := chk_zero h
  intro p hp
  have := chkGo_zero d p hp
  unfold badPap at this
  exact ⟨by omega, by omega, by omega, by omega, by omega⟩
theorem EOk.beg : EOk beg := by constructor <;> decide
end Go.Proofs.Ytaodhdpopklipaa

open Go.Vm
namespace Go.Proofs.Ytaodhdpopklipaa
set_option maxRecDepth 20000
set_option maxHeartbeats 2000000

def esE (a : AL) : List (V × V) := a.map fun x => (aggE x.1, aggE x.2)
def keysE (a : AL) : List D := a.map fun x => .agg (encE x.1)
def valsE (a : AL) : List D := a.map fun x => .agg (encE x.2)
theorem esE_fst (a : AL) : (esE a).map (·.1) = (keysE a).map D.v := by simp only [esE, keysE, List.map_map]; rfl
theorem esE_snd (a : AL) : (esE a).map (·.2) = (valsE a).map D.v := by simp only [esE, valsE, List.map_map]; rfl
theorem esE_zip (a : AL) : (D.vs (keysE a)).zip (D.vs (valsE a)) = esE a := by
  rw [D.vs_eq, D.vs_eq, ← esE_fst, ← esE_snd]
  induction a with
  | nil => rfl
  | cons x a ih => simpa [esE] using ih
theorem esE_ren (a : AL) (ρ : Vm.Id → Vm.Id) : (Blk.map (esE a)).ren ρ = .map (esE a) := by
  unfold Blk.ren
  congr 1
  simp only [esE, List.map_map]
  rfl
theorem BTos.esE {c : TCtx} {loc : List Blk} {pm : List Nat} {bs : List Blk} {j : Nat} {a : AL} (hj : Nat.blt j c.L = true) (hl : loc[j]? = some (.map (esE a))) (r : BTos c loc pm bs) : BTos c loc (j :: pm) (.map (esE a) :: bs) :=
  BTos.map hj hl (by rw [esE_fst]; exact RowTo.dv c _) (by rw [esE_snd]; exact RowTo.dv c _) r
theorem EsTo.esE {c : TCtx} (a : AL) : EsTo c (esE a) (keysE a) (valsE a) := ⟨by rw [esE_fst]; exact RowTo.dv c _, by rw [esE_snd]; exact RowTo.dv c _⟩
theorem top100 : ∃ sh, eqTop Try.prog 74 = some sh ∧ ∀ x y : End, veqSh sh (aggE x) (aggE y) = some (decide (x = y)) := by
  refine ⟨Sh.cons 0 1 false Sh.int (Sh.cons 1 1 false Sh.int (Sh.cons 2 1 false Sh.int (Sh.cons 3 1 false Sh.int (Sh.cons 4 1 false Sh.int Sh.nil)))), by kernel_rfl, fun x y => ?_⟩
  have : ((x.i == y.i) && ((x.year == y.year) && ((x.first == y.first) && ((x.side == y.side) && ((x.since == y.since) && true))))) = decide (x = y) := by
    cases x; cases y; rw [Bool.eq_iff_iff, decide_eq_true_eq]; simp
  rw [← this]
  rfl
theorem found_none {sh : Sh} (hs : ∀ x y : End, veqSh sh (aggE x) (aggE y) = some (decide (x = y))) {a : AL} {e : End} (h : hasK a e = false) : Vm.Found sh (aggE e) (esE a) none := by
  intro j p hp
  simp only [esE, List.getElem?_map, Option.map_eq_some_iff] at hp
  obtain ⟨x, hx, rfl⟩ := hp
  simp only [hs]
  have : x ∈ a := List.mem_of_getElem? hx
  unfold hasK at h
  rw [List.any_eq_false] at h
  have := h x this
  simp only [decide_eq_true_eq] at this
  rw [decide_eq_false (fun e1 => this e1.symm)]
theorem found_some {sh : Sh} (hs : ∀ x y : End, veqSh sh (aggE x) (aggE y) = some (decide (x = y))) : ∀ {a : AL} {e v : End}, alGet a e = some v → ∃ i, Vm.Found sh (aggE e) (esE a) (some (i, aggE v))
  | [], e, v, h => by simp [alGet] at h
  | x :: a, e, v, h => by
    by_cases hx : x.1 = e
    · simp only [alGet, List.find?_cons, hx, decide_true, Option.map_some, Option.some.injEq] at h
      refine ⟨0, aggE x.1, by simp [esE, h], by rw [hs]; simp [hx], fun j p hj => by omega⟩
    · have h' : alGet a e = some v := by simpa [alGet, List.find?_cons, hx] using h
      obtain ⟨i, k0, h1, h2, h3⟩ := found_some hs h'
      refine ⟨i + 1, k0, by simpa [esE] using h1, h2, fun j p hj hp => ?_⟩
      cases j with
      | zero =>
        simp only [esE, List.map_cons, List.getElem?_cons_zero, Option.some.injEq] at hp
        subst hp
        rw [hs, decide_eq_false (fun e1 => hx e1.symm)]
      | succ j => exact h3 j p (by omega) (by simpa [esE] using hp)
theorem hasK_get (a : AL) (e : End) : hasK a e = (alGet a e).isSome := by
  induction a with
  | nil => rfl
  | cons x a ih =>
    by_cases hx : x.1 = e
    · simp [hasK, alGet, hx]
    · simpa [hasK, alGet, hx] using ih
theorem look_esE (a : AL) (e : End) : Look Try.prog (tiOf Try.prog) 69 true (aggE e) (esE a) (match alGet a e with | some v => .tuple [aggE v, B true] | none => .tuple [aggE ⟨0, 0, 0, 0, 0⟩, B false]) := by
  obtain ⟨sh, h1, h2⟩ := top100
  cases hg : alGet a e with
  | none =>
    exact ⟨_, 74, 74, _, sh, true, none, rfl, rfl, h1, by rw [h2]; simp, found_none h2 (by rw [hasK_get, hg]; rfl), rfl⟩
  | some v =>
    obtain ⟨i, hi⟩ := found_some h2 hg
    exact ⟨_, 74, 74, _, sh, true, some (i, aggE v), rfl, rfl, h1, by rw [h2]; simp, hi, rfl⟩
theorem VMem.newE {a : AL} {e v : End} {h : Hp} {i : Vm.Id} {K : V → Hp → Prop} (hb : h.get i = some (.map (esE a))) (hf : hasK a e = false) (hK : K .undef (h.set i (.map (esE (a ++ [(e, v)]))))) : VMem Try.prog (opMapUpdate 69) [.map i, aggE e, aggE v] h K := by
  obtain ⟨sh, h1, h2⟩ := top100
  have : esE (a ++ [(e, v)]) = esE a ++ [(aggE e, aggE v)] := by simp [esE]
  rw [this] at hK
  exact VMem.intro (does_mapNew (tiOf_ok _) (t := 69) rfl rfl h1 (by rw [h2]) (found_none h2 hf) hb) hK
end Go.Proofs.Ytaodhdpopklipaa

open Go.Vm
namespace Go.Proofs.Ytaodhdpopklipaa
set_option maxRecDepth 20000
set_option maxHeartbeats 4000000

def vGone (f : Fil) : V := .tuple [.fm (keysE (gone f).1) (valsE (gone f).1), ends (gone f).2]
structure GJ (o : Vm.Id → Option Blk) (s : AL × List End) (g : Hp) : Prop where
  o : g.outer = o
  c : g.get (.loc 0) = some (.cells true [.map (.loc 1)])
  mp : g.get (.loc 1) = some (.map (esE s.1))
  li : ∃ m, (m = 3 ∨ 6 ≤ m) ∧ g.get (.loc 2) = some (.cells true [.gl (.loc m) 5 s.2.length]) ∧ g.get (.loc m) = some (.flat true (s.2.flatMap encE))
  mar : g.get (.loc 4) = some .mark
theorem isE_go {f : Fil} {i : Nat} {p : Pap} {was : End} {y : Int} (h : 0 < i ∧ sdAt f i = sdAt f (i - 1) ∧ y - was.year ≤ f.G) :
    isE f i p was y = bif decide (¬ was.first = -1 ∧ f.Y ≤ y - was.first) then ⟨i, y, -1, p.side, y⟩ else ⟨i, y, was.first, was.side, was.since⟩ := by
  unfold isE goesB
  rw [decide_eq_true h]; rfl
theorem isE_no {f : Fil} {i : Nat} {p : Pap} {was : End} {y : Int} (h : ¬ (0 < i ∧ sdAt f i = sdAt f (i - 1) ∧ y - was.year ≤ f.G)) :
    isE f i p was y = bif decide (¬ y = -1 ∧ f.Y ≤ y - y) then ⟨i, y, -1, p.side, y⟩ else ⟨i, y, y, was.side, was.since⟩ := by
  unfold isE goesB
  rw [decide_eq_false h]; rfl
theorem upd_ok {g : Hp} {m : Nat} {a2 b2 : AL} {n2 : List End} {b : Blk} (jb : g.get (.loc 2) = some (.cells true [.gl (.loc m) 5 n2.length])) (jm : g.get (.loc 1) = some (.map (esE a2))) (jl : g.get (.loc m) = some (.flat true (n2.flatMap encE))) :
    ∀ p ∈ [(Vm.Id.loc 1, Blk.map (esE b2)), (.loc m, .dead), (.loc 2, b)], g.get p.1 ≠ none := by
  intro p hp
  simp only [List.mem_cons, List.not_mem_nil, or_false] at hp
  rcases hp with rfl | rfl | rfl <;> simp only
  · rw [jm]; simp
  · rw [jl]; simp
  · rw [jb]; simp
theorem GJ.step {o : Vm.Id → Option Blk} {a2 : AL} {n2 : List End} {E was : End} {g : Hp} {m : Nat} (jo : g.outer = o) (jc : g.get (.loc 0) = some (.cells true [.map (.loc 1)])) (jm : g.get (.loc 1) = some (.map (esE a2)))
    (jb : g.get (.loc 2) = some (.cells true [.gl (.loc m) 5 n2.length])) (jl : g.get (.loc m) = some (.flat true (n2.flatMap encE))) (jk : g.get (.loc 4) = some .mark) (hm : m = 3 ∨ 6 ≤ m) {b5 : Blk} (j5 : g.get (.loc 5) = some b5) :
    g.grows ((g.sets [(.loc 1, .map (esE (a2 ++ [(E, was)]))), (.loc m, .dead), (.loc 2, .cells true [.gl g.fresh 5 (n2.length + 1)])]).pushes [.flat true ((n2 ++ [E]).flatMap encE)]) ∧
    GJ o (a2 ++ [(E, was)], n2 ++ [E]) ((g.sets [(.loc 1, .map (esE (a2 ++ [(E, was)]))), (.loc m, .dead), (.loc 2, .cells true [.gl g.fresh 5 (n2.length + 1)])]).pushes [.flat true ((n2 ++ [E]).flatMap encE)]) ∧
    ∀ b, g.get (.loc 5) = some b → ((g.sets [(.loc 1, .map (esE (a2 ++ [(E, was)]))), (.loc m, .dead), (.loc 2, .cells true [.gl g.fresh 5 (n2.length + 1)])]).pushes [.flat true ((n2 ++ [E]).flatMap encE)]).get (.loc 5) = some b := by
  obtain ⟨go, gl⟩ := g
  simp only [Hp.get] at jc jm jb jl jk j5
  have l5 := (List.getElem?_eq_some_iff.1 j5).1
  have l0 := (List.getElem?_eq_some_iff.1 jc).1
  have l1 := (List.getElem?_eq_some_iff.1 jm).1
  have l2 := (List.getElem?_eq_some_iff.1 jb).1
  have l4 := (List.getElem?_eq_some_iff.1 jk).1
  have key : ∀ x, x < gl.length → x ≠ 1 → x ≠ m → x ≠ 2 → ∀ (A B C N : Blk), ((((gl.set 1 A).set m B).set 2 C) ++ [N])[x]? = gl[x]? := by
    intro x hx h1 h2 h3 A B C N
    rw [List.getElem?_append_left (by simpa using hx), List.getElem?_set_ne (Ne.symm h3), List.getElem?_set_ne (Ne.symm h2), List.getElem?_set_ne (Ne.symm h1)]
  refine ⟨Hp.grows_sets (upd_ok (g := ⟨go, gl⟩) jb jm jl), ⟨jo, ?_, ?_, ⟨gl.length, .inr (by omega), ?_, ?_⟩, ?_⟩, fun b hb => ?_⟩
  · show (_ ++ _)[_]? = _
    exact (key 0 l0 (by omega) (by omega) (by omega) _ _ _ _).trans jc
  · show ((((gl.set 1 _).set m _).set 2 _) ++ [_])[1]? = _
    rw [List.getElem?_append_left (by simpa using l1), List.getElem?_set_ne (show (2 : Nat) ≠ 1 by omega), List.getElem?_set_ne (show m ≠ 1 by omega), List.getElem?_set_self l1]
  · show ((((gl.set 1 _).set m _).set 2 _) ++ [_])[2]? = _
    rw [List.getElem?_append_left (by simpa using l2), List.getElem?_set_self (by simpa using l2)]
    simp [Hp.fresh]
  · show ((((gl.set 1 _).set m _).set 2 _) ++ [_])[gl.length]? = _
    rw [List.getElem?_append_right (by simp)]
    simp
  · show (_ ++ _)[_]? = _
    exact (key 4 l4 (by omega) (by omega) (by omega) _ _ _ _).trans jk
  · have hb : gl[5]? = some b := hb
    show (_ ++ _)[_]? = _
    exact (key 5 (List.getElem?_eq_some_iff.1 hb).1 (by omega) (by omega) (by omega) _ _ _ _).trans hb
theorem blt_of {a b : Nat} (h : a < b) : Nat.blt a b = true := Nat.ble_eq_true_of_le h
theorem outer_fix {o : Vm.Id → Option Blk} {iy i1 i2 i3 : Vm.Id} {b0 b b1 b2 b3 : Blk} (h : o iy = some b) (n1 : iy ≠ i1) (n2 : iy ≠ i2) (n3 : iy ≠ i3) : outW (outW (outW (outW (outW o iy b0) i1 b1) i2 b2) i3 b3) iy b = outW (outW (outW o i1 b1) i2 b2) i3 b3 := by
  funext j
  unfold outW
  by_cases e : j = iy
  · subst e; rw [if_pos rfl, if_neg n3, if_neg n2, if_neg n1, h]
  · rw [if_neg e, if_neg e]
theorem VOut.back {h : Hp} {loc : List Blk} {iy : Vm.Id} {b0 b : Blk} {r1 r : V} (hb : h.lift iy = some b) (hr : r1 = r.ren .out) : VOut h ⟨outW (outW h.lift iy b0) iy b, loc⟩ r1 r h := by
  rw [outW_same, ← outW_id hb]
  exact VOut.same hr
theorem vc_gone (f : Fil) (h : Hp) (hc : chk f = 0) : VC Try.prog 19 [vF f] h (vGone f) h := by
  have hpok := chk_pok hc
  obtain ⟨hY1, hY2, hn16, _⟩ := chk_zero hc
  obtain ⟨R, hR⟩ : ∃ R, R = gone f := ⟨_, rfl⟩
  unfold vGone
  rw [← hR]
  refine VC.body Try.func19 rfl Try.ntmps19 Try.call19 (h.grows_refl) rfl ?_; conv => whnf
  repeat (first | ((first | refine zs1 ?_ | refine zs2 ?_ | refine zs3 ?_ | refine zs4 ?_ | refine zs5 ?_ | refine zs6 [] ?_); conv => whnf))
  refine VCode.lp (fun x : Nat × AL × List End => [(1, .fp (encF f)), (5, .ptr (.loc 0) 0), (6, ends x.2.2), (21, paps f.ps), (22, I f.ps.length), (23, I x.1)]) (fun x => [.cells true [.map (.loc 1)], .map (esE x.2.1)])
    (fun x => x.1 ≤ f.ps.length ∧ R = gP f (f.ps.drop x.1) x.1 x.2 ∧ (∀ e ∈ x.2.2, EOk e) ∧ x.2.2.length ≤ 108108024) (fun x => f.ps.length - x.1) (0, [], [beg]) ⟨Nat.zero_le _, hR, by simp [EOk.beg], by simp⟩ ?_ ?_
  · conv => whnf
    refine Retell.turn ⟨[3,2], 5, [(0, encF f), (4, [beg].flatMap encE)], []⟩ (TurnOk.mk' _ _ [(0, encF f), (4, [beg].flatMap encE)] [] (OutOk.lift _) rfl (by decide) zb zf trivial rfl) zv zm
  · rintro ⟨i, a, now⟩ ⟨hi, hRi, hok, hnl⟩
    dsimp only at hi hRi hok hnl
    conv => whnf
    refine VIte.dec (fun h3 => ?_) (fun h3 => ?_)
    · have hp : f.ps[i]? = some f.ps[i] := List.getElem?_eq_getElem (by omega)
      have hpk := hpok f.ps[i] (List.getElem_mem (by omega))
      rw [gP_at hp] at hRi
      generalize f.ps[i] = p at hp hpk hRi
      obtain ⟨W, hW⟩ : ∃ W, W = now.foldl (gW f i p) (a, []) := ⟨_, rfl⟩
      rw [← hW] at hRi
      conv => whnf
      repeat' (first | ((first | refine zs1 ?_ | refine zs2 ?_ | refine zs3 ?_ | refine zs4 ?_ | refine zs5 ?_ | refine zs6 [] ?_); conv => whnf) | ((first | apply zi1 | apply zi2 | apply zi3 | apply zi4 | apply zi5) <;> intro _ <;> conv => whnf) | (refine VAny.ix encP_len i rfl rfl hp ?_; conv => whnf))
      refine VCode.lp (fun x : Nat × AL × List End => [(1, .fp (encF f)), (5, .ptr (.loc 0) 0), (7, .fp [DI i]), (8, .fp (encP p)), (9, .ptr (.loc 2) 0), (21, paps f.ps), (22, I f.ps.length), (23, I i), (28, ends now), (29, I now.length), (30, I x.1)])
        (fun x => [.cells true [.map (.loc 1)], .map (esE x.2.1), .cells true [.gl (.loc 3) 5 x.2.2.length], .flat true (x.2.2.flatMap encE)])
        (fun x => x.1 ≤ now.length ∧ W = (now.drop x.1).foldl (gW f i p) x.2 ∧ GI i p x.2) (fun x => now.length - x.1) (0, a, []) ⟨Nat.zero_le _, hW, by constructor <;> simp⟩ ?_ ?_
      · conv => whnf
        refine Retell.turn ⟨[0,1,4,5], 5, [(2, [DI i]), (3, encP p)], []⟩ (TurnOk.mk' _ _ [(2, [DI i]), (3, encP p)] [] (OutOk.lift _) rfl (by decide) zb zf trivial rfl) zv zm
      · rintro ⟨j, a1, nx⟩ ⟨hj, hWj, hgi⟩
        dsimp only at hj hWj
        conv => whnf
        refine VIte.dec (fun h5 => ?_) (fun h5 => ?_)
        · have hw : now[j]? = some now[j] := List.getElem?_eq_getElem (by omega)
          have hwk := hok now[j] (List.getElem_mem (by omega))
          rw [gW_at hw] at hWj
          generalize now[j] = was at hw hwk hWj
          conv => whnf
          repeat' (first | ((first | refine zs1 ?_ | refine zs2 ?_ | refine zs3 ?_ | refine zs4 ?_ | refine zs5 ?_ | refine zs6 [] ?_); conv => whnf) | ((first | apply zi1 | apply zi2 | apply zi3 | apply zi4 | apply zi5) <;> intro _ <;> conv => whnf) | (refine VAny.ix encE_len j rfl rfl hw ?_; conv => whnf) | (refine VCall.intro (vc_years p _) ?_; conv => whnf))
          refine VCode.tell [(1, .fp (encF f)), (5, .ptr (.loc 0) 0), (7, .fp [DI i]), (8, .fp (encP p)), (9, .ptr (.loc 2) 0), (11, .fp (encE was)), (21, paps f.ps), (22, I f.ps.length), (23, I i), (28, ends now), (29, I now.length), (30, I j), (35, .func (.func 66) [] [.fp (encP p)])]
            [.cells true [.map (.loc 1)], .map (esE a1), .cells true [.gl (.loc 3) 5 nx.length], .flat true (nx.flatMap encE)] (marks' := []) ?_ ?_
          · conv => whnf
            refine Retell.turn ⟨[0,1,2,3], 5, [(4, encE was)], []⟩ (TurnOk.mk' _ _ [(4, encE was)] [] (OutOk.lift _) rfl (by decide) zb zf trivial rfl) zv zm
          · conv => whnf
            obtain ⟨p1, p2, p3, p4, p5⟩ := hpk
            obtain ⟨w1, w2, w3, w4⟩ := hwk
            refine VCode.iter (p.hi - p.lo + 1).toNat (fun k => I (p.lo + k)) (fun k g => GJ h.lift (gYs f i p was (a1, nx) k) g) _ (.loc 5) rfl (vc_years1 p (by omega) (by omega)) rfl rfl rfl (by decide) ?_ ?_ ?_
            · exact ⟨rfl, rfl, rfl, ⟨3, .inl rfl, rfl, rfl⟩, rfl⟩
            · intro k g hk hJ hl
              have hgk := GI.gYs (was := was) (f := f) hgi p1 ⟨w1, w2, w3, w4⟩ p2 p3 p5 k (by omega)
              obtain ⟨E, hE⟩ : ∃ E, E = isE f i p was (p.lo + k) := ⟨_, rfl⟩
              have hnext : gYs f i p was (a1, nx) (k + 1) = bif hasK (gYs f i p was (a1, nx) k).1 E then gYs f i p was (a1, nx) k else ((gYs f i p was (a1, nx) k).1 ++ [(E, was)], (gYs f i p was (a1, nx) k).2 ++ [E]) := by rw [gYs, gY, hE]
              rw [hnext]
              generalize gYs f i p was (a1, nx) k = s at hJ hgk
              obtain ⟨a2, n2⟩ := s
              obtain ⟨y, hy⟩ : ∃ y, y = p.lo + k := ⟨_, rfl⟩
              dsimp only
              rw [← hy] at hE ⊢
              have hyb : 0 ≤ y ∧ y ≤ 3000 := by omega
              obtain ⟨jo, jc, jm, ⟨m, hm, jb, jl⟩, jk⟩ := hJ
              dsimp only at jb jl jm
              have hlen := hgk.len
              dsimp only at hlen
              have hm1 : Vm.Id.loc m ≠ .loc 1 := by intro h0; injection h0; omega
              have hm2 : Vm.Id.loc 2 ≠ .loc m := by intro h0; injection h0; omega
              have hm5 : Vm.Id.loc m ≠ .loc 5 := by intro h0; injection h0; omega
              have hm5' : Vm.Id.loc 5 ≠ .loc m := fun h0 => hm5 h0.symm
              cases hk2 : hasK a2 E
              · obtain ⟨s1, s2, s3⟩ := GJ.step (E := E) (was := was) jo jc jm jb jl jk hm hl
                refine ⟨_, s1, s2, s3 _ hl, fun l => ?_⟩
                refine VRound.tell [(1, .fp (encF f)), (5, .ptr (.out (.loc 0)) 0), (7, .fp [DI i]), (8, .fp (encP p)), (9, .ptr (.out (.loc 2)) 0), (11, .fp (encE was)), (36, I y)] ?_ ?_
                · conv => whnf
                  refine Retell.turn ⟨[], 0, [], []⟩ (TurnOk.mk' _ _ [] [] (OutOk.lift _) rfl (by decide) zb trivial trivial rfl) zv zm
                · conv => whnf
                  refine VBegin.intro (get_out hl _) rfl ?_
                  conv => whnf
                  repeat' (first | ((first | refine zs1 ?_ | refine zs2 ?_ | refine zs3 ?_ | refine zs4 ?_ | refine zs5 ?_ | refine zs6 [] ?_); conv => whnf) | ((first | apply zi1 | apply zi2 | apply zi3 | apply zi4 | apply zi5) <;> intro _ <;> conv => whnf) | (refine VCall.intro (vc_goes f i y was.year _ (by omega) (by omega) (by omega) (by omega)) ?_; conv => whnf))
                  · rename_i x1 x2 x3
                    rw [isE_go x1, decide_eq_true ⟨x2, x3⟩] at hE
                    dsimp only [cond_true, cond_false] at hE
                    subst hE
                    have hag : alGet a2 ⟨(i : Int), y, -1, p.side, y⟩ = none := by
                      have := hk2; rw [hasK_get] at this
                      cases hz : alGet a2 ⟨(i : Int), y, -1, p.side, y⟩ with
                      | none => rfl
                      | some v => rw [hz] at this; cases this
                    refine VLd.cell rfl rfl (get_setO (by decide) jc _) rfl ?_
                    conv => whnf
                    repeat (first | ((first | refine zs1 ?_ | refine zs2 ?_ | refine zs3 ?_ | refine zs4 ?_ | refine zs5 ?_ | refine zs6 [] ?_); conv => whnf))
                    refine VLook.intro (es := esE a2) ((get_setO (by decide) jm _).trans (by rw [esE_ren])) (look_esE a2 ⟨(i : Int), y, -1, p.side, y⟩) ?_
                    rw [hag]
                    conv => whnf
                    repeat (first | ((first | refine zs1 ?_ | refine zs2 ?_ | refine zs3 ?_ | refine zs4 ?_ | refine zs5 ?_ | refine zs6 [] ?_); conv => whnf))
                    refine VLd.cell rfl rfl (get_setO (by decide) jc _) rfl ?_
                    conv => whnf
                    repeat (first | ((first | refine zs1 ?_ | refine zs2 ?_ | refine zs3 ?_ | refine zs4 ?_ | refine zs5 ?_ | refine zs6 [] ?_); conv => whnf))
                    refine VMem.newE (a := a2) (e := ⟨(i : Int), y, -1, p.side, y⟩) (v := was) ((get_setO (by decide) jm _).trans (by rw [esE_ren])) hk2 ?_
                    conv => whnf
                    refine VLd.cell rfl rfl (get_outNe (by decide) (get_setO (by decide) jb _)) rfl ?_
                    conv => whnf
                    repeat (first | ((first | refine zs1 ?_ | refine zs2 ?_ | refine zs3 ?_ | refine zs4 ?_ | refine zs5 ?_ | refine zs6 [] ?_); conv => whnf))
                    refine VMem.app1B (α := End) (l := n2) ⟨(i : Int), y, -1, p.side, y⟩ encE_len rfl (get_outNe hm1 (get_setO hm5 jl _)) rfl rfl rfl (by omega) ?_
                    conv => whnf
                    repeat (first | ((first | refine zs1 ?_ | refine zs2 ?_ | refine zs3 ?_ | refine zs4 ?_ | refine zs5 ?_ | refine zs6 [] ?_); conv => whnf))
                    refine VMem.st1 rfl rfl rfl (b := .cells true [.gl (.out (.loc m)) 5 n2.length]) (get_outNe hm2 (get_outNe (by decide) (get_setO (by decide) jb _))) rfl ?_
                    conv => whnf
                    refine RFin.on (get_outNe (by decide) (get_outNe hm5' (get_outNe (by decide) (outW_get _ _ _ _)))) ?_
                    refine VOut.upd [(.loc 1, .map (esE (a2 ++ [(⟨(i : Int), y, -1, p.side, y⟩, was)]))), (.loc m, .dead), (.loc 2, .cells true [.gl g.fresh 5 (n2.length + 1)])] [.flat true ((n2 ++ ([⟨(i : Int), y, -1, p.side, y⟩] : List End)).flatMap encE)] [3] 4 ?_ (upd_ok jb jm jl) ?_ ?_ ?_ ?_ ?_
                    · rfl
                    · decide
                    · rfl
                    · intro k b hk
                      cases k with
                      | zero => rw [List.getElem?_cons_zero, Option.some.injEq] at hk; subst hk; exact ⟨3, rfl, rfl⟩
                      | succ k => simp at hk
                    · intro σ x hx; exact hx
                    · have e1 : (Blk.cells true [V.gl g.fresh 5 (n2.length + 1)]).ren (backR g.loc.length [3] 4) = .cells true [.gl (.loc 3) 5 (n2.length + 1)] := by simp [Blk.ren, V.ren, backR, Hp.fresh]
                      simp only [List.map_cons, List.map_nil, e1, esE_ren]
                      exact outer_fix (get_out hl []) (by decide) hm5' (by decide)
                  · rename_i x1 x2 x3
                    rw [isE_go x1, decide_eq_false (fun hh => x3 hh.2)] at hE
                    dsimp only [cond_true, cond_false] at hE
                    subst hE
                    have hag : alGet a2 ⟨(i : Int), y, was.first, was.side, was.since⟩ = none := by
                      have := hk2; rw [hasK_get] at this
                      cases hz : alGet a2 ⟨(i : Int), y, was.first, was.side, was.since⟩ with
                      | none => rfl
                      | some v => rw [hz] at this; cases this
                    refine VLd.cell rfl rfl (get_setO (by decide) jc _) rfl ?_
                    conv => whnf
                    repeat (first | ((first | refine zs1 ?_ | refine zs2 ?_ | refine zs3 ?_ | refine zs4 ?_ | refine zs5 ?_ | refine zs6 [] ?_); conv => whnf))
                    refine VLook.intro (es := esE a2) ((get_setO (by decide) jm _).trans (by rw [esE_ren])) (look_esE a2 ⟨(i : Int), y, was.first, was.side, was.since⟩) ?_
                    rw [hag]
                    conv => whnf
                    repeat (first | ((first | refine zs1 ?_ | refine zs2 ?_ | refine zs3 ?_ | refine zs4 ?_ | refine zs5 ?_ | refine zs6 [] ?_); conv => whnf))
                    refine VLd.cell rfl rfl (get_setO (by decide) jc _) rfl ?_
                    conv => whnf
                    repeat (first | ((first | refine zs1 ?_ | refine zs2 ?_ | refine zs3 ?_ | refine zs4 ?_ | refine zs5 ?_ | refine zs6 [] ?_); conv => whnf))
                    refine VMem.newE (a := a2) (e := ⟨(i : Int), y, was.first, was.side, was.since⟩) (v := was) ((get_setO (by decide) jm _).trans (by rw [esE_ren])) hk2 ?_
                    conv => whnf
                    refine VLd.cell rfl rfl (get_outNe (by decide) (get_setO (by decide) jb _)) rfl ?_
                    conv => whnf
                    repeat (first | ((first | refine zs1 ?_ | refine zs2 ?_ | refine zs3 ?_ | refine zs4 ?_ | refine zs5 ?_ | refine zs6 [] ?_); conv => whnf))
                    refine VMem.app1B (α := End) (l := n2) ⟨(i : Int), y, was.first, was.side, was.since⟩ encE_len rfl (get_outNe hm1 (get_setO hm5 jl _)) rfl rfl rfl (by omega) ?_
                    conv => whnf
                    repeat (first | ((first | refine zs1 ?_ | refine zs2 ?_ | refine zs3 ?_ | refine zs4 ?_ | refine zs5 ?_ | refine zs6 [] ?_); conv => whnf))
                    refine VMem.st1 rfl rfl rfl (b := .cells true [.gl (.out (.loc m)) 5 n2.length]) (get_outNe hm2 (get_outNe (by decide) (get_setO (by decide) jb _))) rfl ?_
                    conv => whnf
                    refine RFin.on (get_outNe (by decide) (get_outNe hm5' (get_outNe (by decide) (outW_get _ _ _ _)))) ?_
                    refine VOut.upd [(.loc 1, .map (esE (a2 ++ [(⟨(i : Int), y, was.first, was.side, was.since⟩, was)]))), (.loc m, .dead), (.loc 2, .cells true [.gl g.fresh 5 (n2.length + 1)])] [.flat true ((n2 ++ ([⟨(i : Int), y, was.first, was.side, was.since⟩] : List End)).flatMap encE)] [3] 4 ?_ (upd_ok jb jm jl) ?_ ?_ ?_ ?_ ?_
                    · rfl
                    · decide
                    · rfl
                    · intro k b hk
                      cases k with
                      | zero => rw [List.getElem?_cons_zero, Option.some.injEq] at hk; subst hk; exact ⟨3, rfl, rfl⟩
                      | succ k => simp at hk
                    · intro σ x hx; exact hx
                    · have e1 : (Blk.cells true [V.gl g.fresh 5 (n2.length + 1)]).ren (backR g.loc.length [3] 4) = .cells true [.gl (.loc 3) 5 (n2.length + 1)] := by simp [Blk.ren, V.ren, backR, Hp.fresh]
                      simp only [List.map_cons, List.map_nil, e1, esE_ren]
                      exact outer_fix (get_out hl []) (by decide) hm5' (by decide)
                  · rename_i x1 x2
                    rw [isE_go x1, decide_eq_false (fun hh => hh.1 x2)] at hE
                    dsimp only [cond_true, cond_false] at hE
                    subst hE
                    have hag : alGet a2 ⟨(i : Int), y, was.first, was.side, was.since⟩ = none := by
                      have := hk2; rw [hasK_get] at this
                      cases hz : alGet a2 ⟨(i : Int), y, was.first, was.side, was.since⟩ with
                      | none => rfl
                      | some v => rw [hz] at this; cases this
                    refine VLd.cell rfl rfl (get_setO (by decide) jc _) rfl ?_
                    conv => whnf
                    repeat (first | ((first | refine zs1 ?_ | refine zs2 ?_ | refine zs3 ?_ | refine zs4 ?_ | refine zs5 ?_ | refine zs6 [] ?_); conv => whnf))
                    refine VLook.intro (es := esE a2) ((get_setO (by decide) jm _).trans (by rw [esE_ren])) (look_esE a2 ⟨(i : Int), y, was.first, was.side, was.since⟩) ?_
                    rw [hag]
                    conv => whnf
                    repeat (first | ((first | refine zs1 ?_ | refine zs2 ?_ | refine zs3 ?_ | refine zs4 ?_ | refine zs5 ?_ | refine zs6 [] ?_); conv => whnf))
                    refine VLd.cell rfl rfl (get_setO (by decide) jc _) rfl ?_
                    conv => whnf
                    repeat (first | ((first | refine zs1 ?_ | refine zs2 ?_ | refine zs3 ?_ | refine zs4 ?_ | refine zs5 ?_ | refine zs6 [] ?_); conv => whnf))
                    refine VMem.newE (a := a2) (e := ⟨(i : Int), y, was.first, was.side, was.since⟩) (v := was) ((get_setO (by decide) jm _).trans (by rw [esE_ren])) hk2 ?_
                    conv => whnf
                    refine VLd.cell rfl rfl (get_outNe (by decide) (get_setO (by decide) jb _)) rfl ?_
                    conv => whnf
                    repeat (first | ((first | refine zs1 ?_ | refine zs2 ?_ | refine zs3 ?_ | refine zs4 ?_ | refine zs5 ?_ | refine zs6 [] ?_); conv => whnf))
                    refine VMem.app1B (α := End) (l := n2) ⟨(i : Int), y, was.first, was.side, was.since⟩ encE_len rfl (get_outNe hm1 (get_setO hm5 jl _)) rfl rfl rfl (by omega) ?_
                    conv => whnf
                    repeat (first | ((first | refine zs1 ?_ | refine zs2 ?_ | refine zs3 ?_ | refine zs4 ?_ | refine zs5 ?_ | refine zs6 [] ?_); conv => whnf))
                    refine VMem.st1 rfl rfl rfl (b := .cells true [.gl (.out (.loc m)) 5 n2.length]) (get_outNe hm2 (get_outNe (by decide) (get_setO (by decide) jb _))) rfl ?_
                    conv => whnf
                    refine RFin.on (get_outNe (by decide) (get_outNe hm5' (get_outNe (by decide) (outW_get _ _ _ _)))) ?_
                    refine VOut.upd [(.loc 1, .map (esE (a2 ++ [(⟨(i : Int), y, was.first, was.side, was.since⟩, was)]))), (.loc m, .dead), (.loc 2, .cells true [.gl g.fresh 5 (n2.length + 1)])] [.flat true ((n2 ++ ([⟨(i : Int), y, was.first, was.side, was.since⟩] : List End)).flatMap encE)] [3] 4 ?_ (upd_ok jb jm jl) ?_ ?_ ?_ ?_ ?_
                    · rfl
                    · decide
                    · rfl
                    · intro k b hk
                      cases k with
                      | zero => rw [List.getElem?_cons_zero, Option.some.injEq] at hk; subst hk; exact ⟨3, rfl, rfl⟩
                      | succ k => simp at hk
                    · intro σ x hx; exact hx
                    · have e1 : (Blk.cells true [V.gl g.fresh 5 (n2.length + 1)]).ren (backR g.loc.length [3] 4) = .cells true [.gl (.loc 3) 5 (n2.length + 1)] := by simp [Blk.ren, V.ren, backR, Hp.fresh]
                      simp only [List.map_cons, List.map_nil, e1, esE_ren]
                      exact outer_fix (get_out hl []) (by decide) hm5' (by decide)
                  · rename_i x1 x2 x3
                    rw [isE_no x1, decide_eq_true ⟨x2, x3⟩] at hE
                    dsimp only [cond_true, cond_false] at hE
                    subst hE
                    have hag : alGet a2 ⟨(i : Int), y, -1, p.side, y⟩ = none := by
                      have := hk2; rw [hasK_get] at this
                      cases hz : alGet a2 ⟨(i : Int), y, -1, p.side, y⟩ with
                      | none => rfl
                      | some v => rw [hz] at this; cases this
                    refine VLd.cell rfl rfl (get_setO (by decide) jc _) rfl ?_
                    conv => whnf
                    repeat (first | ((first | refine zs1 ?_ | refine zs2 ?_ | refine zs3 ?_ | refine zs4 ?_ | refine zs5 ?_ | refine zs6 [] ?_); conv => whnf))
                    refine VLook.intro (es := esE a2) ((get_setO (by decide) jm _).trans (by rw [esE_ren])) (look_esE a2 ⟨(i : Int), y, -1, p.side, y⟩) ?_
                    rw [hag]
                    conv => whnf
                    repeat (first | ((first | refine zs1 ?_ | refine zs2 ?_ | refine zs3 ?_ | refine zs4 ?_ | refine zs5 ?_ | refine zs6 [] ?_); conv => whnf))
                    refine VLd.cell rfl rfl (get_setO (by decide) jc _) rfl ?_
                    conv => whnf
                    repeat (first | ((first | refine zs1 ?_ | refine zs2 ?_ | refine zs3 ?_ | refine zs4 ?_ | refine zs5 ?_ | refine zs6 [] ?_); conv => whnf))
                    refine VMem.newE (a := a2) (e := ⟨(i : Int), y, -1, p.side, y⟩) (v := was) ((get_setO (by decide) jm _).trans (by rw [esE_ren])) hk2 ?_
                    conv => whnf
                    refine VLd.cell rfl rfl (get_outNe (by decide) (get_setO (by decide) jb _)) rfl ?_
                    conv => whnf
                    repeat (first | ((first | refine zs1 ?_ | refine zs2 ?_ | refine zs3 ?_ | refine zs4 ?_ | refine zs5 ?_ | refine zs6 [] ?_); conv => whnf))
                    refine VMem.app1B (α := End) (l := n2) ⟨(i : Int), y, -1, p.side, y⟩ encE_len rfl (get_outNe hm1 (get_setO hm5 jl _)) rfl rfl rfl (by omega) ?_
                    conv => whnf
                    repeat (first | ((first | refine zs1 ?_ | refine zs2 ?_ | refine zs3 ?_ | refine zs4 ?_ | refine zs5 ?_ | refine zs6 [] ?_); conv => whnf))
                    refine VMem.st1 rfl rfl rfl (b := .cells true [.gl (.out (.loc m)) 5 n2.length]) (get_outNe hm2 (get_outNe (by decide) (get_setO (by decide) jb _))) rfl ?_
                    conv => whnf
                    refine RFin.on (get_outNe (by decide) (get_outNe hm5' (get_outNe (by decide) (outW_get _ _ _ _)))) ?_
                    refine VOut.upd [(.loc 1, .map (esE (a2 ++ [(⟨(i : Int), y, -1, p.side, y⟩, was)]))), (.loc m, .dead), (.loc 2, .cells true [.gl g.fresh 5 (n2.length + 1)])] [.flat true ((n2 ++ ([⟨(i : Int), y, -1, p.side, y⟩] : List End)).flatMap encE)] [3] 4 ?_ (upd_ok jb jm jl) ?_ ?_ ?_ ?_ ?_
                    · rfl
                    · decide
                    · rfl
                    · intro k b hk
                      cases k with
                      | zero => rw [List.getElem?_cons_zero, Option.some.injEq] at hk; subst hk; exact ⟨3, rfl, rfl⟩
                      | succ k => simp at hk
                    · intro σ x hx; exact hx
                    · have e1 : (Blk.cells true [V.gl g.fresh 5 (n2.length + 1)]).ren (backR g.loc.length [3] 4) = .cells true [.gl (.loc 3) 5 (n2.length + 1)] := by simp [Blk.ren, V.ren, backR, Hp.fresh]
                      simp only [List.map_cons, List.map_nil, e1, esE_ren]
                      exact outer_fix (get_out hl []) (by decide) hm5' (by decide)
                  · rename_i x1 x2 x3
                    rw [isE_no x1, decide_eq_false (fun hh => x3 hh.2)] at hE
                    dsimp only [cond_true, cond_false] at hE
                    subst hE
                    have hag : alGet a2 ⟨(i : Int), y, y, was.side, was.since⟩ = none := by
                      have := hk2; rw [hasK_get] at this
                      cases hz : alGet a2 ⟨(i : Int), y, y, was.side, was.since⟩ with
                      | none => rfl
                      | some v => rw [hz] at this; cases this
                    refine VLd.cell rfl rfl (get_setO (by decide) jc _) rfl ?_
                    conv => whnf
                    repeat (first | ((first | refine zs1 ?_ | refine zs2 ?_ | refine zs3 ?_ | refine zs4 ?_ | refine zs5 ?_ | refine zs6 [] ?_); conv => whnf))
                    refine VLook.intro (es := esE a2) ((get_setO (by decide) jm _).trans (by rw [esE_ren])) (look_esE a2 ⟨(i : Int), y, y, was.side, was.since⟩) ?_
                    rw [hag]
                    conv => whnf
                    repeat (first | ((first | refine zs1 ?_ | refine zs2 ?_ | refine zs3 ?_ | refine zs4 ?_ | refine zs5 ?_ | refine zs6 [] ?_); conv => whnf))
                    refine VLd.cell rfl rfl (get_setO (by decide) jc _) rfl ?_
                    conv => whnf
                    repeat (first | ((first | refine zs1 ?_ | refine zs2 ?_ | refine zs3 ?_ | refine zs4 ?_ | refine zs5 ?_ | refine zs6 [] ?_); conv => whnf))
                    refine VMem.newE (a := a2) (e := ⟨(i : Int), y, y, was.side, was.since⟩) (v := was) ((get_setO (by decide) jm _).trans (by rw [esE_ren])) hk2 ?_
                    conv => whnf
                    refine VLd.cell rfl rfl (get_outNe (by decide) (get_setO (by decide) jb _)) rfl ?_
                    conv => whnf
                    repeat (first | ((first | refine zs1 ?_ | refine zs2 ?_ | refine zs3 ?_ | refine zs4 ?_ | refine zs5 ?_ | refine zs6 [] ?_); conv => whnf))
                    refine VMem.app1B (α := End) (l := n2) ⟨(i : Int), y, y, was.side, was.since⟩ encE_len rfl (get_outNe hm1 (get_setO hm5 jl _)) rfl rfl rfl (by omega) ?_
                    conv => whnf
                    repeat (first | ((first | refine zs1 ?_ | refine zs2 ?_ | refine zs3 ?_ | refine zs4 ?_ | refine zs5 ?_ | refine zs6 [] ?_); conv => whnf))
                    refine VMem.st1 rfl rfl rfl (b := .cells true [.gl (.out (.loc m)) 5 n2.length]) (get_outNe hm2 (get_outNe (by decide) (get_setO (by decide) jb _))) rfl ?_
                    conv => whnf
                    refine RFin.on (get_outNe (by decide) (get_outNe hm5' (get_outNe (by decide) (outW_get _ _ _ _)))) ?_
                    refine VOut.upd [(.loc 1, .map (esE (a2 ++ [(⟨(i : Int), y, y, was.side, was.since⟩, was)]))), (.loc m, .dead), (.loc 2, .cells true [.gl g.fresh 5 (n2.length + 1)])] [.flat true ((n2 ++ ([⟨(i : Int), y, y, was.side, was.since⟩] : List End)).flatMap encE)] [3] 4 ?_ (upd_ok jb jm jl) ?_ ?_ ?_ ?_ ?_
                    · rfl
                    · decide
                    · rfl
                    · intro k b hk
                      cases k with
                      | zero => rw [List.getElem?_cons_zero, Option.some.injEq] at hk; subst hk; exact ⟨3, rfl, rfl⟩
                      | succ k => simp at hk
                    · intro σ x hx; exact hx
                    · have e1 : (Blk.cells true [V.gl g.fresh 5 (n2.length + 1)]).ren (backR g.loc.length [3] 4) = .cells true [.gl (.loc 3) 5 (n2.length + 1)] := by simp [Blk.ren, V.ren, backR, Hp.fresh]
                      simp only [List.map_cons, List.map_nil, e1, esE_ren]
                      exact outer_fix (get_out hl []) (by decide) hm5' (by decide)
                  · rename_i x1 x2
                    rw [isE_no x1, decide_eq_false (fun hh => hh.1 x2)] at hE
                    dsimp only [cond_true, cond_false] at hE
                    subst hE
                    have hag : alGet a2 ⟨(i : Int), y, y, was.side, was.since⟩ = none := by
                      have := hk2; rw [hasK_get] at this
                      cases hz : alGet a2 ⟨(i : Int), y, y, was.side, was.since⟩ with
                      | none => rfl
                      | some v => rw [hz] at this; cases this
                    refine VLd.cell rfl rfl (get_setO (by decide) jc _) rfl ?_
                    conv => whnf
                    repeat (first | ((first | refine zs1 ?_ | refine zs2 ?_ | refine zs3 ?_ | refine zs4 ?_ | refine zs5 ?_ | refine zs6 [] ?_); conv => whnf))
                    refine VLook.intro (es := esE a2) ((get_setO (by decide) jm _).trans (by rw [esE_ren])) (look_esE a2 ⟨(i : Int), y, y, was.side, was.since⟩) ?_
                    rw [hag]
                    conv => whnf
                    repeat (first | ((first | refine zs1 ?_ | refine zs2 ?_ | refine zs3 ?_ | refine zs4 ?_ | refine zs5 ?_ | refine zs6 [] ?_); conv => whnf))
                    refine VLd.cell rfl rfl (get_setO (by decide) jc _) rfl ?_
                    conv => whnf
                    repeat (first | ((first | refine zs1 ?_ | refine zs2 ?_ | refine zs3 ?_ | refine zs4 ?_ | refine zs5 ?_ | refine zs6 [] ?_); conv => whnf))
                    refine VMem.newE (a := a2) (e := ⟨(i : Int), y, y, was.side, was.since⟩) (v := was) ((get_setO (by decide) jm _).trans (by rw [esE_ren])) hk2 ?_
                    conv => whnf
                    refine VLd.cell rfl rfl (get_outNe (by decide) (get_setO (by decide) jb _)) rfl ?_
                    conv => whnf
                    repeat (first | ((first | refine zs1 ?_ | refine zs2 ?_ | refine zs3 ?_ | refine zs4 ?_ | refine zs5 ?_ | refine zs6 [] ?_); conv => whnf))
                    refine VMem.app1B (α := End) (l := n2) ⟨(i : Int), y, y, was.side, was.since⟩ encE_len rfl (get_outNe hm1 (get_setO hm5 jl _)) rfl rfl rfl (by omega) ?_
                    conv => whnf
                    repeat (first | ((first | refine zs1 ?_ | refine zs2 ?_ | refine zs3 ?_ | refine zs4 ?_ | refine zs5 ?_ | refine zs6 [] ?_); conv => whnf))
                    refine VMem.st1 rfl rfl rfl (b := .cells true [.gl (.out (.loc m)) 5 n2.length]) (get_outNe hm2 (get_outNe (by decide) (get_setO (by decide) jb _))) rfl ?_
                    conv => whnf
                    refine RFin.on (get_outNe (by decide) (get_outNe hm5' (get_outNe (by decide) (outW_get _ _ _ _)))) ?_
                    refine VOut.upd [(.loc 1, .map (esE (a2 ++ [(⟨(i : Int), y, y, was.side, was.since⟩, was)]))), (.loc m, .dead), (.loc 2, .cells true [.gl g.fresh 5 (n2.length + 1)])] [.flat true ((n2 ++ ([⟨(i : Int), y, y, was.side, was.since⟩] : List End)).flatMap encE)] [3] 4 ?_ (upd_ok jb jm jl) ?_ ?_ ?_ ?_ ?_
                    · rfl
                    · decide
                    · rfl
                    · intro k b hk
                      cases k with
                      | zero => rw [List.getElem?_cons_zero, Option.some.injEq] at hk; subst hk; exact ⟨3, rfl, rfl⟩
                      | succ k => simp at hk
                    · intro σ x hx; exact hx
                    · have e1 : (Blk.cells true [V.gl g.fresh 5 (n2.length + 1)]).ren (backR g.loc.length [3] 4) = .cells true [.gl (.loc 3) 5 (n2.length + 1)] := by simp [Blk.ren, V.ren, backR, Hp.fresh]
                      simp only [List.map_cons, List.map_nil, e1, esE_ren]
                      exact outer_fix (get_out hl []) (by decide) hm5' (by decide)
              · refine ⟨g, g.grows_refl, ⟨jo, jc, jm, ⟨m, hm, jb, jl⟩, jk⟩, hl, fun l => ?_⟩
                refine VRound.tell [(1, .fp (encF f)), (5, .ptr (.out (.loc 0)) 0), (7, .fp [DI i]), (8, .fp (encP p)), (9, .ptr (.out (.loc 2)) 0), (11, .fp (encE was)), (36, I y)] ?_ ?_
                · conv => whnf
                  refine Retell.turn ⟨[], 0, [], []⟩ (TurnOk.mk' _ _ [] [] (OutOk.lift _) rfl (by decide) zb trivial trivial rfl) zv zm
                · conv => whnf
                  refine VBegin.intro (get_out hl _) rfl ?_
                  conv => whnf
                  repeat' (first | ((first | refine zs1 ?_ | refine zs2 ?_ | refine zs3 ?_ | refine zs4 ?_ | refine zs5 ?_ | refine zs6 [] ?_); conv => whnf) | ((first | apply zi1 | apply zi2 | apply zi3 | apply zi4 | apply zi5) <;> intro _ <;> conv => whnf) | (refine VCall.intro (vc_goes f i y was.year _ (by omega) (by omega) (by omega) (by omega)) ?_; conv => whnf))
                  · rename_i x1 x2 x3
                    rw [isE_go x1, decide_eq_true ⟨x2, x3⟩] at hE
                    dsimp only [cond_true, cond_false] at hE
                    subst hE
                    have hag : ∃ v, alGet a2 ⟨(i : Int), y, -1, p.side, y⟩ = some v := by
                      have := hk2; rw [hasK_get] at this
                      cases hz : alGet a2 ⟨(i : Int), y, -1, p.side, y⟩ with
                      | none => rw [hz] at this; cases this
                      | some v => exact ⟨v, rfl⟩
                    obtain ⟨v, hag⟩ := hag
                    refine VLd.cell rfl rfl (get_setO (by decide) jc _) rfl ?_
                    conv => whnf
                    repeat (first | ((first | refine zs1 ?_ | refine zs2 ?_ | refine zs3 ?_ | refine zs4 ?_ | refine zs5 ?_ | refine zs6 [] ?_); conv => whnf))
                    refine VLook.intro (es := esE a2) ((get_setO (by decide) jm _).trans (by rw [esE_ren])) (look_esE a2 ⟨(i : Int), y, -1, p.side, y⟩) ?_
                    rw [hag]
                    conv => whnf
                    repeat (first | ((first | refine zs1 ?_ | refine zs2 ?_ | refine zs3 ?_ | refine zs4 ?_ | refine zs5 ?_ | refine zs6 [] ?_); conv => whnf))
                    refine RFin.on (outW_get _ _ _ _) ?_
                    exact VOut.back (get_out hl []) rfl
                  · rename_i x1 x2 x3
                    rw [isE_go x1, decide_eq_false (fun hh => x3 hh.2)] at hE
                    dsimp only [cond_true, cond_false] at hE
                    subst hE
                    have hag : ∃ v, alGet a2 ⟨(i : Int), y, was.first, was.side, was.since⟩ = some v := by
                      have := hk2; rw [hasK_get] at this
                      cases hz : alGet a2 ⟨(i : Int), y, was.first, was.side, was.since⟩ with
                      | none => rw [hz] at this; cases this
                      | some v => exact ⟨v, rfl⟩
                    obtain ⟨v, hag⟩ := hag
                    refine VLd.cell rfl rfl (get_setO (by decide) jc _) rfl ?_
                    conv => whnf
                    repeat (first | ((first | refine zs1 ?_ | refine zs2 ?_ | refine zs3 ?_ | refine zs4 ?_ | refine zs5 ?_ | refine zs6 [] ?_); conv => whnf))
                    refine VLook.intro (es := esE a2) ((get_setO (by decide) jm _).trans (by rw [esE_ren])) (look_esE a2 ⟨(i : Int), y, was.first, was.side, was.since⟩) ?_
                    rw [hag]
                    conv => whnf
                    repeat (first | ((first | refine zs1 ?_ | refine zs2 ?_ | refine zs3 ?_ | refine zs4 ?_ | refine zs5 ?_ | refine zs6 [] ?_); conv => whnf))
                    refine RFin.on (outW_get _ _ _ _) ?_
                    exact VOut.back (get_out hl []) rfl
                  · rename_i x1 x2
                    rw [isE_go x1, decide_eq_false (fun hh => hh.1 x2)] at hE
                    dsimp only [cond_true, cond_false] at hE
                    subst hE
                    have hag : ∃ v, alGet a2 ⟨(i : Int), y, was.first, was.side, was.since⟩ = some v := by
                      have := hk2; rw [hasK_get] at this
                      cases hz : alGet a2 ⟨(i : Int), y, was.first, was.side, was.since⟩ with
                      | none => rw [hz] at this; cases this
                      | some v => exact ⟨v, rfl⟩
                    obtain ⟨v, hag⟩ := hag
                    refine VLd.cell rfl rfl (get_setO (by decide) jc _) rfl ?_
                    conv => whnf
                    repeat (first | ((first | refine zs1 ?_ | refine zs2 ?_ | refine zs3 ?_ | refine zs4 ?_ | refine zs5 ?_ | refine zs6 [] ?_); conv => whnf))
                    refine VLook.intro (es := esE a2) ((get_setO (by decide) jm _).trans (by rw [esE_ren])) (look_esE a2 ⟨(i : Int), y, was.first, was.side, was.since⟩) ?_
                    rw [hag]
                    conv => whnf
                    repeat (first | ((first | refine zs1 ?_ | refine zs2 ?_ | refine zs3 ?_ | refine zs4 ?_ | refine zs5 ?_ | refine zs6 [] ?_); conv => whnf))
                    refine RFin.on (outW_get _ _ _ _) ?_
                    exact VOut.back (get_out hl []) rfl
                  · rename_i x1 x2 x3
                    rw [isE_no x1, decide_eq_true ⟨x2, x3⟩] at hE
                    dsimp only [cond_true, cond_false] at hE
                    subst hE
                    have hag : ∃ v, alGet a2 ⟨(i : Int), y, -1, p.side, y⟩ = some v := by
                      have := hk2; rw [hasK_get] at this
                      cases hz : alGet a2 ⟨(i : Int), y, -1, p.side, y⟩ with
                      | none => rw [hz] at this; cases this
                      | some v => exact ⟨v, rfl⟩
                    obtain ⟨v, hag⟩ := hag
                    refine VLd.cell rfl rfl (get_setO (by decide) jc _) rfl ?_
                    conv => whnf
                    repeat (first | ((first | refine zs1 ?_ | refine zs2 ?_ | refine zs3 ?_ | refine zs4 ?_ | refine zs5 ?_ | refine zs6 [] ?_); conv => whnf))
                    refine VLook.intro (es := esE a2) ((get_setO (by decide) jm _).trans (by rw [esE_ren])) (look_esE a2 ⟨(i : Int), y, -1, p.side, y⟩) ?_
                    rw [hag]
                    conv => whnf
                    repeat (first | ((first | refine zs1 ?_ | refine zs2 ?_ | refine zs3 ?_ | refine zs4 ?_ | refine zs5 ?_ | refine zs6 [] ?_); conv => whnf))
                    refine RFin.on (outW_get _ _ _ _) ?_
                    exact VOut.back (get_out hl []) rfl
                  · rename_i x1 x2 x3
                    rw [isE_no x1, decide_eq_false (fun hh => x3 hh.2)] at hE
                    dsimp only [cond_true, cond_false] at hE
                    subst hE
                    have hag : ∃ v, alGet a2 ⟨(i : Int), y, y, was.side, was.since⟩ = some v := by
                      have := hk2; rw [hasK_get] at this
                      cases hz : alGet a2 ⟨(i : Int), y, y, was.side, was.since⟩ with
                      | none => rw [hz] at this; cases this
                      | some v => exact ⟨v, rfl⟩
                    obtain ⟨v, hag⟩ := hag
                    refine VLd.cell rfl rfl (get_setO (by decide) jc _) rfl ?_
                    conv => whnf
                    repeat (first | ((first | refine zs1 ?_ | refine zs2 ?_ | refine zs3 ?_ | refine zs4 ?_ | refine zs5 ?_ | refine zs6 [] ?_); conv => whnf))
                    refine VLook.intro (es := esE a2) ((get_setO (by decide) jm _).trans (by rw [esE_ren])) (look_esE a2 ⟨(i : Int), y, y, was.side, was.since⟩) ?_
                    rw [hag]
                    conv => whnf
                    repeat (first | ((first | refine zs1 ?_ | refine zs2 ?_ | refine zs3 ?_ | refine zs4 ?_ | refine zs5 ?_ | refine zs6 [] ?_); conv => whnf))
                    refine RFin.on (outW_get _ _ _ _) ?_
                    exact VOut.back (get_out hl []) rfl
                  · rename_i x1 x2
                    rw [isE_no x1, decide_eq_false (fun hh => hh.1 x2)] at hE
                    dsimp only [cond_true, cond_false] at hE
                    subst hE
                    have hag : ∃ v, alGet a2 ⟨(i : Int), y, y, was.side, was.since⟩ = some v := by
                      have := hk2; rw [hasK_get] at this
                      cases hz : alGet a2 ⟨(i : Int), y, y, was.side, was.since⟩ with
                      | none => rw [hz] at this; cases this
                      | some v => exact ⟨v, rfl⟩
                    obtain ⟨v, hag⟩ := hag
                    refine VLd.cell rfl rfl (get_setO (by decide) jc _) rfl ?_
                    conv => whnf
                    repeat (first | ((first | refine zs1 ?_ | refine zs2 ?_ | refine zs3 ?_ | refine zs4 ?_ | refine zs5 ?_ | refine zs6 [] ?_); conv => whnf))
                    refine VLook.intro (es := esE a2) ((get_setO (by decide) jm _).trans (by rw [esE_ren])) (look_esE a2 ⟨(i : Int), y, y, was.side, was.since⟩) ?_
                    rw [hag]
                    conv => whnf
                    repeat (first | ((first | refine zs1 ?_ | refine zs2 ?_ | refine zs3 ?_ | refine zs4 ?_ | refine zs5 ?_ | refine zs6 [] ?_); conv => whnf))
                    refine RFin.on (outW_get _ _ _ _) ?_
                    exact VOut.back (get_out hl []) rfl
            · intro g hJ hl
              have hgk := GI.gYs (was := was) (f := f) hgi p1 ⟨w1, w2, w3, w4⟩ p2 p3 p5 (p.hi - p.lo + 1).toNat (Nat.le_refl _)
              have e : gYs f i p was (a1, nx) (p.hi - p.lo + 1).toNat = gW f i p (a1, nx) was := rfl
              rw [e] at hJ hgk
              generalize gW f i p (a1, nx) was = s at hJ hgk hWj
              obtain ⟨a2, n2⟩ := s
              obtain ⟨go, gl⟩ := g
              obtain ⟨jo, jc, jm, ⟨m, hm, jb, jl⟩, jk⟩ := hJ
              dsimp only at jo jb jl jm
              subst jo
              simp only [Hp.get] at jc jm jb jl jk
              have l0 := (List.getElem?_eq_some_iff.1 jc).1
              have l1 := (List.getElem?_eq_some_iff.1 jm).1
              have l2 := (List.getElem?_eq_some_iff.1 jb).1
              have lm := (List.getElem?_eq_some_iff.1 jl).1
              have key : ∀ (x : Nat) (A : Blk), x ≠ 5 → (gl.set 5 A)[x]? = gl[x]? := fun x A hx => List.getElem?_set_ne (Ne.symm hx)
              conv => whnf
              repeat (first | ((first | refine zs1 ?_ | refine zs2 ?_ | refine zs3 ?_ | refine zs4 ?_ | refine zs5 ?_ | refine zs6 [] ?_); conv => whnf))
              refine LEnd.intro (j + 1, a2, n2) ⟨by dsimp only; omega, hWj, hgk⟩ (by dsimp only; omega) ?_
              conv => whnf
              have hmn : ([0, 1, 2, m] : List Nat).Nodup := by simp; omega
              have hm4 : 4 ∉ ([0, 1, 2, m] : List Nat) := by simp; omega
              refine Retell.turn ⟨[0, 1, 2, m], gl.length, [], []⟩ (TurnOk.mk' _ _ [] [] (OutOk.lift _) (Nat.ble_eq_true_of_le (by simp)) hmn
                (BTos.cells (blt_of l0) ((key 0 _ (by omega)).trans jc) rfl zv (BTos.esE (blt_of l1) ((key 1 _ (by omega)).trans jm) (BTos.cells (blt_of l2) ((key 2 _ (by omega)).trans jb) rfl zv (BTos.flat (blt_of lm) ((key m _ (by omega)).trans jl) rfl BTos.nil)))) trivial trivial rfl) zv
                (MkTo.drop hm4 ((key 4 _ (by omega)).trans jk) MkTo.nil)
        · have hje : j = now.length := by omega
          subst hje
          rw [List.drop_of_length_le (Nat.le_refl _), List.foldl_nil] at hWj
          subst hWj
          conv => whnf
          repeat (first | ((first | refine zs1 ?_ | refine zs2 ?_ | refine zs3 ?_ | refine zs4 ?_ | refine zs5 ?_ | refine zs6 [] ?_); conv => whnf))
          refine LEnd.intro (i + 1, a1, nx) ⟨by dsimp only; omega, hRi, hgi.ok, hgi.len⟩ (by dsimp only; omega) ?_
          conv => whnf
          refine Retell.turn ⟨[0,1], 4, [(3, nx.flatMap encE)], []⟩ (TurnOk.mk' _ _ [(3, nx.flatMap encE)] [] (OutOk.lift _) rfl (by decide) zb zf trivial rfl) zv zm
    · have hie : i = f.ps.length := by dsimp only at h3; omega
      subst hie
      rw [List.drop_of_length_le (Nat.le_refl _), gP] at hRi
      subst hRi
      conv => whnf
      repeat (first | ((first | refine zs1 ?_ | refine zs2 ?_ | refine zs3 ?_ | refine zs4 ?_ | refine zs5 ?_ | refine zs6 [] ?_); conv => whnf))
      refine VOut.data 2 [] [(1, keysE a, valsE a)] rfl FzAll.nil ⟨⟨esE a, rfl, EsTo.esE a⟩, trivial⟩ zv
end Go.Proofs.Ytaodhdpopklipaa

open Go.Vm
namespace Go.Proofs.Ytaodhdpopklipaa
set_option maxRecDepth 20000
set_option maxHeartbeats 2000000

def isG (f : Fil) (x : Int) : Bool := (gone f).2.any fun e => decide (e.side = x)
def osG (f : Fil) : List Int := selS (fun k => isG f k) 3
theorem foldl_inv {α β : Type} {P : β → Prop} {g : β → α → β} : ∀ {l : List α} {s : β}, P s → (∀ s a, a ∈ l → P s → P (g s a)) → P (l.foldl g s)
  | [], _, h, _ => h
  | a :: l, s, h, hg => foldl_inv (l := l) (hg s a (by simp) h) fun s b hb hs => hg s b (by simp [hb]) hs
theorem gP_inv {f : Fil} : ∀ (ps : List Pap) (i : Nat) (s : AL × List End), (∀ p ∈ ps, POk p) → (∀ e ∈ s.2, EOk e) → s.2.length ≤ 108108024 → (∀ e ∈ (gP f ps i s).2, EOk e) ∧ (gP f ps i s).2.length ≤ 108108024
  | [], _, _, _, h, hl => ⟨h, hl⟩
  | p :: r, i, s, hp, h, _ => by
    rw [gP]
    have hpk := hp p (by simp)
    have key : GI i p (s.2.foldl (gW f i p) (s.1, [])) := by
      refine foldl_inv (P := GI i p) (by constructor <;> simp) fun s' was hw hs => ?_
      exact GI.gYs hs hpk.side (h was hw) hpk.lo hpk.hi hpk.near _ (Nat.le_refl _)
    exact gP_inv r (i + 1) _ (fun q hq => hp q (by simp [hq])) key.ok key.len
theorem gone_inv {f : Fil} (h : chk f = 0) : (∀ e ∈ (gone f).2, EOk e) ∧ (gone f).2.length ≤ 108108024 :=
  gP_inv f.ps 0 _ (chk_pok h) (by simp [EOk.beg]) (by simp)
theorem vc_Owners_ok (f : Fil) (h : Hp) (h0 : chk f = 0) : VC Try.prog 9 [vF f] h (.tuple [ints (osG f), I 0]) h := by
  have hn := (chk_zero h0).2.2.1
  have hS : ∀ h, VC Try.prog 18 [vF f] h (I 0) h := fun h => h0 ▸ vc_check f h (by omega)
  have hG := fun h => vc_gone f h h0
  obtain ⟨hok, hlen⟩ := gone_inv h0
  have hio : ∀ x, isG f x = (gone f).2.any fun e => decide (e.side = x) := fun x => rfl
  unfold osG vGone at *
  obtain ⟨q, hq⟩ : ∃ q : Int → Bool, q = isG f := ⟨_, rfl⟩
  rw [← hq] at hio ⊢
  generalize gone f = G at hG hok hlen hio
  obtain ⟨ga, L⟩ := G
  dsimp only at hG hok hlen hio
  refine VC.body Try.func9 rfl Try.ntmps9 Try.call9 (h.grows_refl) rfl ?_; conv => whnf
  repeat' (first | ((first | refine zs1 ?_ | refine zs2 ?_ | refine zs3 ?_ | refine zs4 ?_ | refine zs5 ?_ | refine zs6 [] ?_); conv => whnf) | ((first | apply zi1 | apply zi2 | apply zi3 | apply zi4 | apply zi5) <;> intro _ <;> conv => whnf) | (refine VCall.intro (hS _) ?_; conv => whnf) | (refine VCall.intro (hG _) ?_; conv => whnf))
  refine VCode.lp (fun x : Nat × Bool × Bool × Bool => [(1, .ptr (.loc 0) 0), (5, .ptr (.loc 1) 0), (22, ends L), (23, I L.length), (24, I x.1)]) (fun x => [.flat true (encF f), .flat true [DB x.2.1, DB x.2.2.1, DB x.2.2.2]])
    (fun x => x.1 ≤ L.length ∧ q 0 = (x.2.1 || (L.drop x.1).any fun e => decide (e.side = 0)) ∧ q 1 = (x.2.2.1 || (L.drop x.1).any fun e => decide (e.side = 1)) ∧ q 2 = (x.2.2.2 || (L.drop x.1).any fun e => decide (e.side = 2))) (fun x => L.length - x.1) (0, false, false, false) ⟨Nat.zero_le _, hio 0, hio 1, hio 2⟩ ?_ ?_
  · conv => whnf
    refine Retell.turn ⟨[0,1], 2, [], []⟩ (TurnOk.mk' _ _ [] [] (OutOk.lift _) rfl (by decide) zb trivial trivial rfl) zv zm
  · rintro ⟨j, b0, b1, b2⟩ ⟨g1, g2, g3, g4⟩
    dsimp only at g1 g2 g3 g4
    conv => whnf
    refine VIte.dec (fun h3 => ?_) (fun h3 => ?_)
    · have hx : L[j]? = some L[j] := List.getElem?_eq_getElem (by omega)
      have hox := hok L[j] (List.getElem_mem (by omega))
      generalize L[j] = e at hx hox
      rw [any_drop hx] at g2 g3 g4
      obtain ⟨ei, ey, ef, es, en⟩ := e
      have hs := hox.side
      dsimp only at hs g2 g3 g4
      have : es = 0 ∨ es = 1 ∨ es = 2 := by omega
      rcases this with rfl | rfl | rfl
      · conv => whnf
        repeat' (first | ((first | refine zs1 ?_ | refine zs2 ?_ | refine zs3 ?_ | refine zs4 ?_ | refine zs5 ?_ | refine zs6 [] ?_); conv => whnf) | ((first | apply zi1 | apply zi2 | apply zi3 | apply zi4 | apply zi5) <;> intro _ <;> conv => whnf) | (refine VAny.ix encE_len j rfl rfl hx ?_; conv => whnf))
        refine LEnd.intro (j + 1, true, b1, b2) ⟨by dsimp only; omega, by rw [g2]; simp, by rw [g3]; simp, by rw [g4]; simp⟩ (by dsimp only; omega) ?_
        conv => whnf
        refine Retell.turn ⟨[0,1], 3, [], []⟩ (TurnOk.mk' _ _ [] [] (OutOk.lift _) rfl (by decide) zb trivial trivial rfl) zv zm
      · conv => whnf
        repeat' (first | ((first | refine zs1 ?_ | refine zs2 ?_ | refine zs3 ?_ | refine zs4 ?_ | refine zs5 ?_ | refine zs6 [] ?_); conv => whnf) | ((first | apply zi1 | apply zi2 | apply zi3 | apply zi4 | apply zi5) <;> intro _ <;> conv => whnf) | (refine VAny.ix encE_len j rfl rfl hx ?_; conv => whnf))
        refine LEnd.intro (j + 1, b0, true, b2) ⟨by dsimp only; omega, by rw [g2]; simp, by rw [g3]; simp, by rw [g4]; simp⟩ (by dsimp only; omega) ?_
        conv => whnf
        refine Retell.turn ⟨[0,1], 3, [], []⟩ (TurnOk.mk' _ _ [] [] (OutOk.lift _) rfl (by decide) zb trivial trivial rfl) zv zm
      · conv => whnf
        repeat' (first | ((first | refine zs1 ?_ | refine zs2 ?_ | refine zs3 ?_ | refine zs4 ?_ | refine zs5 ?_ | refine zs6 [] ?_); conv => whnf) | ((first | apply zi1 | apply zi2 | apply zi3 | apply zi4 | apply zi5) <;> intro _ <;> conv => whnf) | (refine VAny.ix encE_len j rfl rfl hx ?_; conv => whnf))
        refine LEnd.intro (j + 1, b0, b1, true) ⟨by dsimp only; omega, by rw [g2]; simp, by rw [g3]; simp, by rw [g4]; simp⟩ (by dsimp only; omega) ?_
        conv => whnf
        refine Retell.turn ⟨[0,1], 3, [], []⟩ (TurnOk.mk' _ _ [] [] (OutOk.lift _) rfl (by decide) zb trivial trivial rfl) zv zm
    · rw [List.drop_of_length_le (by dsimp only at h3; omega), List.any_nil, Bool.or_false] at g2 g3 g4
      rw [← g2, ← g3, ← g4]
      conv => whnf
      repeat (first | ((first | refine zs1 ?_ | refine zs2 ?_ | refine zs3 ?_ | refine zs4 ?_ | refine zs5 ?_ | refine zs6 [] ?_); conv => whnf))
      refine VCode.lp (fun k : Nat => [(5, .ptr (.loc 0) 0), (10, .gl (.loc 1) 1 (selS (fun k => q k) k).length), (32, I k)]) (fun k => [.flat true [DB (q 0), DB (q 1), DB (q 2)], .flat true ((selS (fun k => q k) k).flatMap encI)]) (fun k => k ≤ 3) (fun k => 3 - k) 0 (Nat.zero_le _) ?_ ?_
      · conv => whnf
        refine Retell.turn ⟨[1,2], 2, [], []⟩ (TurnOk.mk' _ _ [] [] (OutOk.lift _) rfl (by decide) zb trivial trivial rfl) zv zm
      · intro k hk
        have hsl := selS_len (fun k => q k) k
        conv => whnf
        refine VIte.dec (fun h3 => ?_) (fun h3 => ?_)
        · have : k = 0 ∨ k = 1 ∨ k = 2 := by omega
          have hs1 : selS (fun k => q k) (k + 1) = if q k then selS (fun k => q k) k ++ [(k : Int)] else selS (fun k => q k) k := rfl
          rcases this with rfl | rfl | rfl
          · have hs2 : q 0 = q ((0 : Nat) : Int) := rfl
            conv => whnf
            repeat' (first | ((first | refine zs1 ?_ | refine zs2 ?_ | refine zs3 ?_ | refine zs4 ?_ | refine zs5 ?_ | refine zs6 [] ?_); conv => whnf) | ((first | apply zi1 | apply zi2 | apply zi3 | apply zi4 | apply zi5) <;> intro _ <;> conv => whnf))
            · rename_i hq1
              refine VMem.app1 ((0 : Nat) : Int) encI_len rfl rfl rfl rfl rfl (by omega) ?_
              conv => whnf
              repeat (first | ((first | refine zs1 ?_ | refine zs2 ?_ | refine zs3 ?_ | refine zs4 ?_ | refine zs5 ?_ | refine zs6 [] ?_); conv => whnf))
              refine LEnd.intro (0 + 1) (by omega) (by omega) ?_
              conv => whnf
              rw [hs1, ← hs2, if_pos hq1, List.length_append]
              refine Retell.turn ⟨[0,3], 4, [], []⟩ (TurnOk.mk' _ _ [] [] (OutOk.lift _) rfl (by decide) zb trivial trivial rfl) zv zm
            · rename_i hq1
              refine LEnd.intro (0 + 1) (by omega) (by omega) ?_
              conv => whnf
              rw [hs1, ← hs2, if_neg (by simpa using hq1)]
              refine Retell.turn ⟨[0,1], 2, [], []⟩ (TurnOk.mk' _ _ [] [] (OutOk.lift _) rfl (by decide) zb trivial trivial rfl) zv zm
          · have hs2 : q 1 = q ((1 : Nat) : Int) := rfl
            conv => whnf
            repeat' (first | ((first | refine zs1 ?_ | refine zs2 ?_ | refine zs3 ?_ | refine zs4 ?_ | refine zs5 ?_ | refine zs6 [] ?_); conv => whnf) | ((first | apply zi1 | apply zi2 | apply zi3 | apply zi4 | apply zi5) <;> intro _ <;> conv => whnf))
            · rename_i hq1
              refine VMem.app1 ((1 : Nat) : Int) encI_len rfl rfl rfl rfl rfl (by omega) ?_
              conv => whnf
              repeat (first | ((first | refine zs1 ?_ | refine zs2 ?_ | refine zs3 ?_ | refine zs4 ?_ | refine zs5 ?_ | refine zs6 [] ?_); conv => whnf))
              refine LEnd.intro (1 + 1) (by omega) (by omega) ?_
              conv => whnf
              rw [hs1, ← hs2, if_pos hq1, List.length_append]
              refine Retell.turn ⟨[0,3], 4, [], []⟩ (TurnOk.mk' _ _ [] [] (OutOk.lift _) rfl (by decide) zb trivial trivial rfl) zv zm
            · rename_i hq1
              refine LEnd.intro (1 + 1) (by omega) (by omega) ?_
              conv => whnf
              rw [hs1, ← hs2, if_neg (by simpa using hq1)]
              refine Retell.turn ⟨[0,1], 2, [], []⟩ (TurnOk.mk' _ _ [] [] (OutOk.lift _) rfl (by decide) zb trivial trivial rfl) zv zm
          · have hs2 : q 2 = q ((2 : Nat) : Int) := rfl
            conv => whnf
            repeat' (first | ((first | refine zs1 ?_ | refine zs2 ?_ | refine zs3 ?_ | refine zs4 ?_ | refine zs5 ?_ | refine zs6 [] ?_); conv => whnf) | ((first | apply zi1 | apply zi2 | apply zi3 | apply zi4 | apply zi5) <;> intro _ <;> conv => whnf))
            · rename_i hq1
              refine VMem.app1 ((2 : Nat) : Int) encI_len rfl rfl rfl rfl rfl (by omega) ?_
              conv => whnf
              repeat (first | ((first | refine zs1 ?_ | refine zs2 ?_ | refine zs3 ?_ | refine zs4 ?_ | refine zs5 ?_ | refine zs6 [] ?_); conv => whnf))
              refine LEnd.intro (2 + 1) (by omega) (by omega) ?_
              conv => whnf
              rw [hs1, ← hs2, if_pos hq1, List.length_append]
              refine Retell.turn ⟨[0,3], 4, [], []⟩ (TurnOk.mk' _ _ [] [] (OutOk.lift _) rfl (by decide) zb trivial trivial rfl) zv zm
            · rename_i hq1
              refine LEnd.intro (2 + 1) (by omega) (by omega) ?_
              conv => whnf
              rw [hs1, ← hs2, if_neg (by simpa using hq1)]
              refine Retell.turn ⟨[0,1], 2, [], []⟩ (TurnOk.mk' _ _ [] [] (OutOk.lift _) rfl (by decide) zb trivial trivial rfl) zv zm
        · conv => whnf
          have hk' : k = 3 := by omega
          subst hk'
          repeat (first | ((first | refine zs1 ?_ | refine zs2 ?_ | refine zs3 ?_ | refine zs4 ?_ | refine zs5 ?_ | refine zs6 [] ?_); conv => whnf))
          refine VOut.data 2 [(1, (selS (fun k => q k) 3).flatMap encI)] [] rfl zf (by exact FmAll.nil) zv
end Go.Proofs.Ytaodhdpopklipaa

open Go.Vm
namespace Go.Proofs.Ytaodhdpopklipaa
set_option maxRecDepth 20000
set_option maxHeartbeats 1000000

/-! ### What gone finds are the ends of truths -/

theorem isE_goes {f : Fil} {i : Nat} {p : Pap} {was : End} {y : Int} (h : 0 < i ∧ sdAt f i = sdAt f (i - 1) ∧ y - was.year ≤ f.G) :
    isE f i p was y = bif decide (¬ was.first = -1 ∧ f.Y ≤ y - was.first) then ⟨i, y, -1, p.side, y⟩ else ⟨i, y, was.first, was.side, was.since⟩ := by
  unfold isE goesB
  rw [decide_eq_true h]; rfl
theorem isE_new {f : Fil} {i : Nat} {p : Pap} {was : End} {y : Int} (h : ¬ (0 < i ∧ sdAt f i = sdAt f (i - 1) ∧ y - was.year ≤ f.G)) :
    isE f i p was y = bif decide (¬ y = -1 ∧ f.Y ≤ y - y) then ⟨i, y, -1, p.side, y⟩ else ⟨i, y, y, was.side, was.since⟩ := by
  unfold isE goesB
  rw [decide_eq_false h]; rfl
def stOf (f : Fil) (t : List Int) : Nat → End
  | 0 => beg
  | k + 1 => match f.ps[k]? with
    | some p => isE f k p (stOf f t k) (tAt t k)
    | none => stOf f t k
theorem stOf_congr {f : Fil} {t u : List Int} : ∀ {k : Nat}, (∀ j, j < k → tAt t j = tAt u j) → stOf f t k = stOf f u k
  | 0, _ => rfl
  | k + 1, h => by
    rw [stOf, stOf, stOf_congr (fun j hj => h j (by omega)), h k (by omega)]
def goneK (f : Fil) : Nat → AL × List End
  | 0 => ([], [beg])
  | k + 1 => match f.ps[k]? with
    | some p => (goneK f k).2.foldl (gW f k p) ((goneK f k).1, [])
    | none => goneK f k
theorem goneK_gP (f : Fil) : ∀ k, k ≤ f.ps.length → gP f (f.ps.drop k) k (goneK f k) = gone f
  | 0, _ => rfl
  | k + 1, hk => by
    have hp : f.ps[k]? = some f.ps[k] := List.getElem?_eq_getElem (by omega)
    rw [← goneK_gP f k (by omega), gP_at hp, goneK, hp]
theorem gone_eq (f : Fil) : gone f = goneK f f.ps.length := by
  have := goneK_gP f f.ps.length (Nat.le_refl _)
  rw [List.drop_of_length_le (Nat.le_refl _), gP] at this
  exact this.symm
structure PInv (f : Fil) (k : Nat) (p : Pap) (a0 : AL) (s : AL × List End) (done : List (End × Int)) : Prop where
  mem : ∀ e, e ∈ s.2 ↔ ∃ w y, (w, y) ∈ done ∧ e = isE f k p w y
  al : ∀ x ∈ s.1, x ∈ a0 ∨ (x.1.i = k ∧ ∃ y, (x.2, y) ∈ done ∧ x.1 = isE f k p x.2 y)
  old : ∀ x ∈ a0, x ∈ s.1
  key : ∀ e, hasK s.1 e = true → e.i = k → e ∈ s.2
  has : ∀ e ∈ s.2, hasK s.1 e = true
theorem isE_i (f : Fil) (k : Nat) (p : Pap) (w : End) (y : Int) : (isE f k p w y).i = k := by
  unfold isE
  cases decide (¬ (bif goesB f k y w.year then w.first else y) = -1 ∧ f.Y ≤ y - (bif goesB f k y w.year then w.first else y)) <;> rfl
theorem isE_year (f : Fil) (k : Nat) (p : Pap) (w : End) (y : Int) : (isE f k p w y).year = y := by
  unfold isE
  cases decide (¬ (bif goesB f k y w.year then w.first else y) = -1 ∧ f.Y ≤ y - (bif goesB f k y w.year then w.first else y)) <;> rfl
theorem hasK_iff {a : AL} {e : End} : hasK a e = true ↔ ∃ x ∈ a, x.1 = e := by simp [hasK]
theorem PInv.gY {f : Fil} {k : Nat} {p : Pap} {a0 : AL} {s : AL × List End} {done : List (End × Int)} (h : PInv f k p a0 s done) (w : End) (y : Int) : PInv f k p a0 (gY f k p w s y) (done ++ [(w, y)]) := by
  have hi := isE_i f k p w y
  unfold Ytaodhdpopklipaa.gY
  obtain ⟨E, hE⟩ : ∃ E, E = isE f k p w y := ⟨_, rfl⟩
  rw [← hE] at hi ⊢
  cases hk : hasK s.1 E
  · refine ⟨fun e => ?_, fun x hx => ?_, fun x hx => ?_, fun e he hi2 => ?_, fun e he => ?_⟩
    · simp only [cond_false, List.mem_append, List.mem_singleton, Prod.mk.injEq]
      rw [h.mem]
      constructor
      · rintro (⟨w', y', h1, h2⟩ | rfl)
        · exact ⟨w', y', .inl h1, h2⟩
        · exact ⟨w, y, .inr ⟨rfl, rfl⟩, hE⟩
      · rintro ⟨w', y', h1 | ⟨rfl, rfl⟩, h2⟩
        · exact .inl ⟨w', y', h1, h2⟩
        · exact .inr (h2.trans hE.symm)
    · simp only [cond_false, List.mem_append, List.mem_singleton] at hx
      rcases hx with hx | rfl
      · rcases h.al x hx with h1 | ⟨h1, y', h2, h3⟩
        · exact .inl h1
        · exact .inr ⟨h1, y', by simp [h2], h3⟩
      · exact .inr ⟨hi, y, by simp, hE⟩
    · simp only [cond_false, List.mem_append]
      exact .inl (h.old x hx)
    · simp only [cond_false] at he ⊢
      rw [hasK_snoc, Bool.or_eq_true, decide_eq_true_eq] at he
      rcases he with he | rfl
      · exact List.mem_append_left _ (h.key e he hi2)
      · simp
    · simp only [cond_false, List.mem_append, List.mem_singleton] at he ⊢
      rw [hasK_snoc]
      rcases he with he | rfl
      · rw [h.has e he]; rfl
      · simp
  · simp only [cond_true]
    refine ⟨fun e => ?_, fun x hx => ?_, h.old, h.key, h.has⟩
    · rw [h.mem]
      constructor
      · rintro ⟨w', y', h1, h2⟩
        exact ⟨w', y', by simp [h1], h2⟩
      · rintro ⟨w', y', h1, h2⟩
        simp only [List.mem_append, List.mem_singleton, Prod.mk.injEq] at h1
        rcases h1 with h1 | ⟨rfl, rfl⟩
        · exact ⟨w', y', h1, h2⟩
        · rw [← hE] at h2
          exact (h.mem e).1 (by rw [h2]; exact h.key E hk hi)
    · rcases h.al x hx with h1 | ⟨h1, y', h2, h3⟩
      · exact .inl h1
      · exact .inr ⟨h1, y', by simp [h2], h3⟩
def prs (p : Pap) (w : End) (m : Nat) : List (End × Int) := (List.range m).map fun j : Nat => (w, p.lo + (j : Int))
theorem PInv.gYs {f : Fil} {k : Nat} {p : Pap} {a0 : AL} {s : AL × List End} {done : List (End × Int)} (h : PInv f k p a0 s done) (w : End) : ∀ m, PInv f k p a0 (gYs f k p w s m) (done ++ prs p w m)
  | 0 => by simpa [prs, Ytaodhdpopklipaa.gYs] using h
  | m + 1 => by
    have := (PInv.gYs h w m).gY w (p.lo + m)
    have e : prs p w (m + 1) = prs p w m ++ [(w, p.lo + (m : Int))] := by simp [prs, List.range_succ]
    rw [e, ← List.append_assoc]
    exact this
theorem PInv.fold {f : Fil} {k : Nat} {p : Pap} {a0 : AL} : ∀ (l : List End) {s : AL × List End} {done : List (End × Int)}, PInv f k p a0 s done → PInv f k p a0 (l.foldl (gW f k p) s) (done ++ l.flatMap fun w => prs p w (p.hi - p.lo + 1).toNat)
  | [], _, _, h => by simpa using h
  | w :: l, s, done, h => by
    rw [List.foldl_cons, List.flatMap_cons, ← List.append_assoc]
    exact PInv.fold l (h.gYs w _)
theorem mem_prs {p : Pap} {w : End} {v : End} {y : Int} : (v, y) ∈ prs p w (p.hi - p.lo + 1).toNat ↔ v = w ∧ p.lo ≤ y ∧ y ≤ p.hi := by
  unfold prs
  simp only [List.mem_map, List.mem_range, Prod.mk.injEq]
  constructor
  · rintro ⟨j, h1, rfl, rfl⟩; exact ⟨rfl, by omega, by omega⟩
  · rintro ⟨rfl, h1, h2⟩; exact ⟨(y - p.lo).toNat, by omega, rfl, by omega⟩
structure KInv (f : Fil) (k : Nat) : Prop where
  out : ∀ e ∈ (goneK f k).2, ∃ t ∈ tru (f.ps.take k), stOf f t k = e
  into : ∀ t ∈ tru (f.ps.take k), stOf f t k ∈ (goneK f k).2
  al : ∀ x ∈ (goneK f k).1, ∃ (j : Nat) (p : Pap) (y : Int), j < k ∧ f.ps[j]? = some p ∧ p.lo ≤ y ∧ y ≤ p.hi ∧ x.1 = isE f j p x.2 y ∧ x.2 ∈ (goneK f j).2
  has : ∀ j, 0 < j → j ≤ k → ∀ e ∈ (goneK f j).2, hasK (goneK f k).1 e = true
theorem tru_lenK {f : Fil} {k : Nat} {t : List Int} (hk : k ≤ f.ps.length) (ht : t ∈ tru (f.ps.take k)) : t.length = k := by
  have := (mem_tru.1 ht).1
  rw [this, List.length_take]; omega
theorem tAt_app {t : List Int} {y : Int} {j : Nat} (h : j < t.length) : tAt (t ++ [y]) j = tAt t j := by
  simp [tAt, List.getD_eq_getElem?_getD, List.getElem?_append_left h]
theorem tAt_end {t : List Int} {y : Int} : tAt (t ++ [y]) t.length = y := by simp [tAt]
theorem kinv (f : Fil) : ∀ k, k ≤ f.ps.length → KInv f k
  | 0, _ => by
    have ht : tru (f.ps.take 0) = [[]] := rfl
    refine ⟨fun e he => ?_, fun t ht2 => ?_, fun x hx => ?_, fun j h1 h2 => by omega⟩
    · simp only [goneK, List.mem_singleton] at he
      exact ⟨[], by rw [ht]; simp, he.symm⟩
    · simp [goneK, stOf]
    · simp [goneK] at hx
  | k + 1, hk => by
    have ih := kinv f k (by omega)
    have hp : f.ps[k]? = some f.ps[k] := List.getElem?_eq_getElem (by omega)
    generalize f.ps[k] = p at hp
    have hg : goneK f (k + 1) = (goneK f k).2.foldl (gW f k p) ((goneK f k).1, []) := by rw [goneK, hp]
    have hi0 : ∀ x ∈ (goneK f k).1, x.1.i ≠ k := by
      intro x hx h0
      obtain ⟨j, q, y, h1, _, _, _, h2, _⟩ := ih.al x hx
      have := isE_i f j q x.2 y
      rw [← h2] at this
      omega
    have P0 : PInv f k p (goneK f k).1 ((goneK f k).1, []) [] := by
      refine ⟨fun e => by simp, fun x hx => .inl hx, fun x hx => hx, fun e he hi => ?_, fun e he => by simp at he⟩
      obtain ⟨x, hx, rfl⟩ := hasK_iff.1 he
      exact absurd hi (hi0 x hx)
    have P := PInv.fold (goneK f k).2 P0
    rw [← hg, List.nil_append] at P
    have hmem : ∀ v y, (v, y) ∈ ((goneK f k).2.flatMap fun w => prs p w (p.hi - p.lo + 1).toNat) ↔ v ∈ (goneK f k).2 ∧ p.lo ≤ y ∧ y ≤ p.hi := by
      intro v y
      rw [List.mem_flatMap]
      constructor
      · rintro ⟨w, h1, h2⟩; obtain ⟨rfl, h3⟩ := mem_prs.1 h2; exact ⟨h1, h3⟩
      · rintro ⟨h1, h2⟩; exact ⟨v, h1, mem_prs.2 ⟨rfl, h2⟩⟩
    have hst : ∀ t ∈ tru (f.ps.take k), ∀ y, stOf f (t ++ [y]) (k + 1) = isE f k p (stOf f t k) y := by
      intro t ht y
      have hl := tru_lenK (by omega) ht
      rw [stOf, hp]
      simp only
      rw [stOf_congr (u := t) (fun j hj => tAt_app (by omega))]
      congr 1
      rw [← hl]; exact tAt_end
    refine ⟨fun e he => ?_, fun t ht => ?_, fun x hx => ?_, fun j h1 h2 e he => ?_⟩
    · obtain ⟨w, y, h1, h2⟩ := (P.mem e).1 he
      obtain ⟨h3, h4, h5⟩ := (hmem w y).1 h1
      obtain ⟨t, ht, hte⟩ := ih.out w h3
      refine ⟨t ++ [y], ?_, by rw [hst t ht, hte, h2]⟩
      rw [tru_snoc hp]
      unfold ext1 yrs
      rw [List.mem_flatMap]
      refine ⟨t, ht, ?_⟩
      rw [List.mem_map]
      exact ⟨y, by rw [List.mem_map]; exact ⟨(y - p.lo).toNat, by rw [List.mem_range]; omega, by omega⟩, rfl⟩
    · rw [tru_snoc hp] at ht
      unfold ext1 yrs at ht
      rw [List.mem_flatMap] at ht
      obtain ⟨t0, ht0, ht⟩ := ht
      rw [List.mem_map] at ht
      obtain ⟨y, hy, rfl⟩ := ht
      rw [List.mem_map] at hy
      obtain ⟨m, hm, rfl⟩ := hy
      rw [List.mem_range] at hm
      rw [P.mem]
      exact ⟨stOf f t0 k, _, (hmem _ _).2 ⟨ih.into t0 ht0, by omega, by omega⟩, hst t0 ht0 _⟩
    · rcases P.al x hx with h1 | ⟨h1, y, h2, h3⟩
      · obtain ⟨j, q, y, g1, g2⟩ := ih.al x h1
        exact ⟨j, q, y, by omega, g2⟩
      · obtain ⟨h4, h5, h6⟩ := (hmem _ _).1 h2
        exact ⟨k, p, y, by omega, hp, h5, h6, h3, h4⟩
    · by_cases hj : j = k + 1
      · subst hj; exact P.has e he
      · obtain ⟨x, hx, hxe⟩ := hasK_iff.1 (ih.has j h1 (by omega) e he)
        exact hasK_iff.2 ⟨x, P.old x hx, hxe⟩
theorem stOf_spec {f : Fil} {t : List Int} (o : Okt f t) : ∀ k, k + 1 ≤ t.length → stOf f t (k + 1) = ⟨k, tAt t k, if f.Y ≤ tAt t k - tAt t (fst f t k) then -1 else tAt t (fst f t k), (ownS f t (k + 1)).1, (ownS f t (k + 1)).2⟩ := by
  have hY := o.y
  have hlen := o.len
  intro k
  induction k with
  | zero =>
    intro hk
    have hp : f.ps[0]? = some f.ps[0] := List.getElem?_eq_getElem (by omega)
    have hpos : 0 ≤ tAt t 0 := by
      have hy : t[0]? = some t[0] := List.getElem?_eq_getElem (by omega)
      rw [tAt_eq hy]; exact (o.yr hy).1
    rw [stOf, hp]
    simp only [stOf]
    have ha : arB f t 0 = false := by unfold arB; rw [fst]; exact decide_eq_false (by omega)
    have hf0 : fst f t 0 = 0 := rfl
    have ho : ownS f t (0 + 1) = if arB f t 0 then (sdAt f 0, tAt t 0) else (2, 0) := rfl
    rw [ho, ha, isE_new (by omega), decide_eq_false (by omega), hf0, if_neg (show ¬ f.Y ≤ tAt t 0 - tAt t 0 by omega)]
    rfl
  | succ k ih =>
    intro hk
    have ih := ih (by omega)
    have hp : f.ps[k + 1]? = some f.ps[k + 1] := List.getElem?_eq_getElem (by omega)
    have hsd := sdAt_eq hp
    have hpos : 0 ≤ tAt t (k + 1) := by
      have hy : t[k + 1]? = some t[k + 1] := List.getElem?_eq_getElem (by omega)
      rw [tAt_eq hy]; exact (o.yr hy).1
    have hpos2 : ∀ j, j ≤ k → 0 ≤ tAt t j := by
      intro j hj
      have hy : t[j]? = some t[j] := List.getElem?_eq_getElem (by omega)
      rw [tAt_eq hy]; exact (o.yr hy).1
    have hlt := o.mono (a := k) (b := k + 1) (by omega) (by omega)
    have hfl := fst_le f t k
    rw [stOf, hp]
    simp only
    generalize f.ps[k + 1] = p at hp hsd
    have ho : ownS f t (k + 1 + 1) = if arB f t (k + 1) then (sdAt f (k + 1), tAt t (k + 1)) else ownS f t (k + 1) := rfl
    rw [ih, ho]
    by_cases hb : bgB f t (k + 1) = true
    · have hb2 : ¬ (0 < k + 1 ∧ sdAt f (k + 1) = sdAt f (k + 1 - 1) ∧ tAt t (k + 1) - tAt t k ≤ f.G) := by
        unfold bgB at hb
        rw [decide_eq_true_eq] at hb
        simp only [Nat.add_sub_cancel] at hb ⊢
        omega
      have hf : fst f t (k + 1) = k + 1 := by rw [fst, if_pos hb]
      have ha : arB f t (k + 1) = false := by unfold arB; rw [hf]; exact decide_eq_false (by omega)
      rw [isE_new hb2, decide_eq_false (by omega), ha, hf, if_neg (show ¬ f.Y ≤ tAt t (k + 1) - tAt t (k + 1) by omega)]
      simp
    · have hb2 : (0 < k + 1 ∧ sdAt f (k + 1) = sdAt f (k + 1 - 1) ∧ tAt t (k + 1) - tAt t k ≤ f.G) := by
        unfold bgB at hb
        rw [decide_eq_true_eq] at hb
        simp only [Nat.add_sub_cancel] at hb ⊢
        omega
      have hf : fst f t (k + 1) = fst f t k := by rw [fst, if_neg hb]
      have hp1 := hpos2 (fst f t k) hfl
      rw [isE_goes hb2]
      simp only
      have har : arB f t (k + 1) = decide (f.Y ≤ tAt t (k + 1) - tAt t (fst f t k) ∧ tAt t k - tAt t (fst f t k) < f.Y) := by unfold arB; rw [hf, Nat.add_sub_cancel]
      rw [har, hf]
      generalize tAt t (fst f t k) = z at hp1
      by_cases h1 : f.Y ≤ tAt t k - z
      · rw [if_pos h1, decide_eq_false (by omega), decide_eq_false (by omega), if_pos (show f.Y ≤ tAt t (k + 1) - z by omega)]
        simp
      · rw [if_neg h1]
        by_cases h2 : f.Y ≤ tAt t (k + 1) - z
        · rw [decide_eq_true (by omega), decide_eq_true (by omega), if_pos h2]
          simp [hsd]
        · rw [decide_eq_false (by omega), decide_eq_false (by omega), if_neg h2]
          simp
end Go.Proofs.Ytaodhdpopklipaa

open Go.Vm
namespace Go.Proofs.Ytaodhdpopklipaa
set_option maxRecDepth 20000
set_option maxHeartbeats 2000000

def backK (a : AL) : Nat → End → List Int
  | 0, _ => []
  | k + 1, e => e.year :: backK a k ((alGet a e).getD beg)
theorem backK_len (a : AL) : ∀ k e, (backK a k e).length = k
  | 0, _ => rfl
  | k + 1, e => by simp [backK, backK_len a k]
theorem alGet_mem {a : AL} {e v : End} (h : alGet a e = some v) : (e, v) ∈ a := by
  unfold alGet at h
  rw [Option.map_eq_some_iff] at h
  obtain ⟨x, h1, rfl⟩ := h
  have h2 := List.find?_some h1
  simp only [decide_eq_true_eq] at h2
  rw [← h2]
  exact List.mem_of_find?_eq_some h1
theorem back_step {f : Fil} {k : Nat} {x : End} (hk : k + 1 ≤ f.ps.length) (hx : x ∈ (goneK f (k + 1)).2) :
    x ≠ beg ∧ ∃ v p, alGet (gone f).1 x = some v ∧ v ∈ (goneK f k).2 ∧ f.ps[k]? = some p ∧ p.lo ≤ x.year ∧ x.year ≤ p.hi ∧ x = isE f k p v x.year := by
  have K := kinv f f.ps.length (Nat.le_refl _)
  have K1 := kinv f (k + 1) hk
  have hi : x.i = k := by
    obtain ⟨t, _, ht⟩ := K1.out x hx
    have hp : f.ps[k]? = some f.ps[k] := List.getElem?_eq_getElem (by omega)
    rw [stOf, hp] at ht
    rw [← ht]; exact isE_i _ _ _ _ _
  have hh := K.has (k + 1) (by omega) hk x hx
  rw [← gone_eq] at hh
  rw [hasK_get] at hh
  refine ⟨fun h0 => ?_, ?_⟩
  · rw [h0] at hi
    have : (-1 : Int) = k := hi
    omega
  · cases hg : alGet (gone f).1 x with
    | none => rw [hg] at hh; cases hh
    | some v =>
      have hm := alGet_mem hg
      rw [gone_eq] at hm
      obtain ⟨j, p, y, h1, h2, h3, h4, h5, h6⟩ := K.al (x, v) hm
      simp only at h5 h6
      have hj : (j : Int) = k := by rw [← hi, h5, isE_i]
      have hj : j = k := by omega
      subst hj
      have hy : x.year = y := by rw [h5, isE_year]
      exact ⟨v, p, rfl, h6, h2, by omega, by omega, by rw [hy]; exact h5⟩
theorem own_end {f : Fil} {t : List Int} (o : Okt f t) : ((stOf f t f.ps.length).side, (stOf f t f.ps.length).since) = own f t := by
  have hl := o.len
  unfold own
  rw [← hl]
  rcases Nat.eq_zero_or_pos t.length with h | h
  · rw [h]; rfl
  · obtain ⟨k, hk⟩ : ∃ k, t.length = k + 1 := ⟨t.length - 1, by omega⟩
    rw [hk, stOf_spec o k (by omega)]
theorem isG_eq {f : Fil} (h0 : chk f = 0) (x : Int) : isG f x = isOwn f x := by
  have K := kinv f f.ps.length (Nat.le_refl _)
  have hT : f.ps.take f.ps.length = f.ps := List.take_length
  unfold isG isOwn
  rw [Bool.eq_iff_iff, List.any_eq_true, List.any_eq_true, gone_eq]
  constructor
  · rintro ⟨e, he, hx⟩
    obtain ⟨t, ht, hte⟩ := K.out e he
    rw [hT] at ht
    have := own_end (tru_okt h0 ht)
    rw [hte] at this
    exact ⟨t, ht, by rw [← this]; exact hx⟩
  · rintro ⟨t, ht, hx⟩
    have h1 := K.into t (by rw [hT]; exact ht)
    have := own_end (tru_okt h0 ht)
    rw [← this] at hx
    exact ⟨_, h1, hx⟩
theorem osG_eq {f : Fil} (h0 : chk f = 0) : osG f = osL f := by
  unfold osG osL
  congr 1
  funext k
  exact isG_eq h0 k
theorem fidx_spec (q : End → Bool) : ∀ (l : List End) (i : Int), (fidx q l i = -1 ∧ ∀ e ∈ l, q e = false) ∨ ∃ (j : Nat) (e : End), fidx q l i = i + j ∧ l[j]? = some e ∧ q e = true
  | [], i => .inl ⟨rfl, by simp⟩
  | a :: l, i => by
    rw [fidx]
    cases hq : q a
    · rcases fidx_spec q l (i + 1) with ⟨h1, h2⟩ | ⟨j, e, h1, h2, h3⟩
      · exact .inl ⟨h1, by intro e he; rcases List.mem_cons.1 he with rfl | he; exact hq; exact h2 e he⟩
      · exact .inr ⟨j + 1, e, by rw [cond_false, h1]; omega, by simpa using h2, h3⟩
    · exact .inr ⟨0, a, by simp, rfl, hq⟩
def truG (f : Fil) (x : Int) : List Int := match (gone f).2[(fidx (fun e => decide (e.side = x)) (gone f).2 0).toNat]? with
  | some e => (backK (gone f).1 f.ps.length e).reverse
  | none => []
end Go.Proofs.Ytaodhdpopklipaa

open Go.Vm
namespace Go.Proofs.Ytaodhdpopklipaa
set_option maxRecDepth 20000
set_option maxHeartbeats 2000000
theorem vneqE (x y : End) : vaggeq Try.prog .neq 74 (aggE x) (aggE y) = some (B (decide (¬ x = y))) := by
  have : (!((x.i == y.i) && ((x.year == y.year) && ((x.first == y.first) && ((x.side == y.side) && ((x.since == y.since) && true)))))) = decide (¬ x = y) := by
    cases x; cases y; rw [Bool.eq_iff_iff, decide_eq_true_eq]; simp [-not_and]; omega
  rw [← this]
  unfold vaggeq
  rw [show eqTop Try.prog 74 = some (Sh.cons 0 1 false Sh.int (Sh.cons 1 1 false Sh.int (Sh.cons 2 1 false Sh.int (Sh.cons 3 1 false Sh.int (Sh.cons 4 1 false Sh.int Sh.nil))))) by kernel_rfl]
  rfl
theorem look_esF {a : AL} {e v : End} (hg : alGet a e = some v) : Look Try.prog (tiOf Try.prog) 69 false (aggE e) ((D.vs (keysE a)).zip (D.vs (valsE a))) (aggE v) := by
  obtain ⟨sh, h1, h2⟩ := top100
  obtain ⟨i, hi⟩ := found_some h2 hg
  rw [esE_zip]
  exact ⟨_, 74, 74, _, sh, true, some (i, aggE v), rfl, rfl, h1, by rw [h2]; simp, hi, rfl⟩
def truE (f : Fil) (x : Int) : Int := if chk f ≠ 0 then chk f else if x < 0 ∨ 2 < x then 4 else bif isG f x then 0 else 7
theorem vc_Truth_ok (f : Fil) (x : Int) (h : Hp) (hE : truE f x = 0) : VC Try.prog 31 [vF f, I x] h (.tuple [ints (truG f x), I 0]) h := by
  unfold truE at hE
  have h0 : chk f = 0 := by
    by_cases h0 : chk f = 0
    · exact h0
    · rw [if_pos h0] at hE; exact absurd hE h0
  rw [if_neg (by simpa using h0)] at hE
  have h1 : ¬ (x < 0 ∨ 2 < x) := fun h1 => by rw [if_pos h1] at hE; cases hE
  rw [if_neg h1] at hE
  have hg : isG f x = true := by
    cases hg : isG f x
    · rw [hg] at hE; cases hE
    · rfl
  have hn16 := (chk_zero h0).2.2.1
  have hS : ∀ h, VC Try.prog 18 [vF f] h (I 0) h := fun h => h0 ▸ vc_check f h (by omega)
  have hG := fun h => vc_gone f h h0
  obtain ⟨hok, hlen⟩ := gone_inv h0
  have hstep := fun k x hk hx => back_step (f := f) (k := k) (x := x) hk hx
  have hge := gone_eq f
  unfold isG at hg
  rw [List.any_eq_true] at hg
  obtain ⟨e1, hm1, he1⟩ := hg
  obtain ⟨R, hR⟩ : ∃ R, R = truG f x := ⟨_, rfl⟩
  rw [← hR]
  unfold truG at hR
  unfold vGone at hG
  generalize gone f = G at hG hok hlen hstep hge hm1 hR
  obtain ⟨a, L⟩ := G
  dsimp only at hG hok hlen hstep hm1 hR
  rcases fidx_spec (fun e => decide (e.side = x)) L 0 with ⟨_, hbad⟩ | ⟨j, e, hf, hj, he⟩
  · rw [hbad e1 hm1] at he1; cases he1
  have hI := fun h => vc_IndexFunc L (fun e => decide (e.side = x)) 60 [.pt [DI x]] (by omega) (fun e h => vc_Truth1 x e h) h
  rw [hf, Int.zero_add] at hI hR
  rw [Int.toNat_natCast, hj] at hR
  have heK : e ∈ (goneK f f.ps.length).2 := by rw [← hge]; exact List.mem_of_getElem? hj
  obtain ⟨W, hW⟩ : ∃ W, W = backK a f.ps.length e := ⟨_, rfl⟩
  have hR : R = W.reverse := by rw [hW]; exact hR
  subst hR
  have hWl : W.length = f.ps.length := by rw [hW, backK_len]
  refine VC.body Try.func31 rfl Try.ntmps31 Try.call31 (h.grows_refl) rfl ?_; conv => whnf
  repeat' (first | ((first | refine zs1 ?_ | refine zs2 ?_ | refine zs3 ?_ | refine zs4 ?_ | refine zs5 ?_ | refine zs6 [] ?_); conv => whnf) | ((first | apply zi1 | apply zi2 | apply zi3 | apply zi4 | apply zi5) <;> intro _ <;> conv => whnf) | (refine VCall.intro (hS _) ?_; conv => whnf) | (refine VCall.intro (vc_from _ _ _ _) ?_; conv => whnf) | (refine VCall.intro (hG _) ?_; conv => whnf))
  · exfalso; omega
  · refine VCall.intro (VC.give (args' := [ends L, .func (.func 60) [] [.fp [DI x]]]) (loc' := [.flat true (encF f), .dead]) [(1, [DI x])] [] (OutOk.lift _) zb zf (by exact FmAll.nil) rfl zv (hI _)) ?_
    conv => whnf
    repeat' (first | ((first | refine zs1 ?_ | refine zs2 ?_ | refine zs3 ?_ | refine zs4 ?_ | refine zs5 ?_ | refine zs6 [] ?_); conv => whnf) | ((first | apply zi1 | apply zi2 | apply zi3 | apply zi4 | apply zi5) <;> intro _ <;> conv => whnf) | (refine VAny.ix encE_len j (by omega) rfl hj ?_; conv => whnf))
    · refine VCode.lp (fun y : Nat × End × List Int => [(7, .fm (keysE a) (valsE a)), (10, .gl (.loc 1) 1 y.2.2.length), (11, .ptr (.loc 0) 0)]) (fun y => [.flat true (encE y.2.1), .flat true (y.2.2.flatMap encI)])
        (fun y => y.1 ≤ f.ps.length ∧ y.2.1 ∈ (goneK f y.1).2 ∧ W = y.2.2 ++ backK a y.1 y.2.1) (fun y => y.1) (f.ps.length, e, []) ⟨Nat.le_refl _, heK, hW⟩ ?_ ?_
      · conv => whnf
        refine Retell.turn ⟨[2,3], 3, [], []⟩ (TurnOk.mk' _ _ [] [] (OutOk.lift _) rfl (by decide) zb trivial trivial rfl) zv zm
      · rintro ⟨k, z, out⟩ ⟨g1, g2, g3⟩
        dsimp only at g1 g2 g3
        conv => whnf
        repeat' (first | ((first | refine zs1 ?_ | refine zs2 ?_ | refine zs3 ?_ | refine zs4 ?_ | refine zs5 ?_ | refine zs6 [] ?_); conv => whnf) | ((first | apply zi1 | apply zi2 | apply zi3 | apply zi4 | apply zi5) <;> intro _ <;> conv => whnf) | (refine VAgg.intro (vneqE z beg) ?_; conv => whnf))
        · rename_i hx
          have hz : ¬ z = beg := by first | exact hx | simpa using hx
          clear hx
          cases k with
          | zero => simp only [goneK, List.mem_singleton] at g2; exact absurd g2 hz
          | succ k =>
            obtain ⟨_, v, p, hv, hvm, _⟩ := hstep k z g1 g2
            rw [backK, hv, Option.getD_some] at g3
            have hol : out.length ≤ 16 := by
              have : W.length = out.length + (k + 1) := by rw [g3]; simp [backK_len]
              omega
            refine VMem.app1 z.year encI_len rfl rfl rfl rfl rfl (by dsimp only; omega) ?_
            conv => whnf
            repeat' (first | ((first | refine zs1 ?_ | refine zs2 ?_ | refine zs3 ?_ | refine zs4 ?_ | refine zs5 ?_ | refine zs6 [] ?_); conv => whnf) | ((first | apply zi1 | apply zi2 | apply zi3 | apply zi4 | apply zi5) <;> intro _ <;> conv => whnf) | (refine VLookF.intro (look_esF hv) ?_; conv => whnf))
            refine LEnd.intro (k, v, out ++ [z.year]) ⟨by dsimp only; omega, hvm, by rw [g3]; simp⟩ (by dsimp only; omega) ?_
            conv => whnf
            rw [List.length_append]
            refine Retell.turn ⟨[4,3], 5, [], []⟩ (TurnOk.mk' _ _ [] [] (OutOk.lift _) rfl (by decide) zb trivial trivial rfl) zv zm
        · rename_i hx
          have hz : z = beg := by first | exact hx | simpa using hx
          clear hx
          cases k with
          | succ k => exact absurd hz (hstep k z g1 g2).1
          | zero =>
            rw [backK, List.append_nil] at g3
            subst g3
            refine VCall.intro (vc_reverse W (.loc 1) _ rfl (by omega)) ?_
            conv => whnf
            repeat (first | ((first | refine zs1 ?_ | refine zs2 ?_ | refine zs3 ?_ | refine zs4 ?_ | refine zs5 ?_ | refine zs6 [] ?_); conv => whnf))
            rw [show ints W.reverse = .fs 1 W.length (W.reverse.flatMap encI) from by unfold ints; rw [List.length_reverse]]
            refine VOut.data 3 [(1, W.reverse.flatMap encI)] [] rfl zf (by exact FmAll.nil) zv
end Go.Proofs.Ytaodhdpopklipaa

open Go.Vm
namespace Go.Proofs.Ytaodhdpopklipaa
set_option maxRecDepth 20000
set_option maxHeartbeats 2000000

def sinL (x : Int) (l : List End) : List Int := (l.filter fun e => decide (e.side = x)).map (·.since)
theorem sinL_at {x : Int} {l : List End} {k : Nat} {e : End} (h : l[k]? = some e) : sinL x (l.take (k + 1)) = if e.side = x then sinL x (l.take k) ++ [e.since] else sinL x (l.take k) := by
  unfold sinL
  rw [List.take_add_one, h, List.filter_append, List.map_append]
  simp only [Option.toList_some, List.filter_cons, List.filter_nil]
  split <;> simp_all
theorem sinL_len (x : Int) (l : List End) : (sinL x l).length ≤ l.length := by
  unfold sinL
  rw [List.length_map]
  exact List.length_filter_le _ _
theorem vc_SinceG (f : Fil) (x : Int) (h : Hp) (h0 : chk f = 0) (hx : 0 ≤ x ∧ x ≤ 1) : VC Try.prog 32 [vF f, I x] h (match sinL x (gone f).2 with
    | [] => .tuple [.agg [I 0, I 0], I 7]
    | a :: r => .tuple [.agg [I (minL (a :: r)), I (maxL (a :: r))], I 0]) h := by
  have hn16 := (chk_zero h0).2.2.1
  have hS : ∀ h, VC Try.prog 18 [vF f] h (I 0) h := fun h => h0 ▸ vc_check f h (by omega)
  have hG := fun h => vc_gone f h h0
  obtain ⟨hok, hlen⟩ := gone_inv h0
  unfold vGone at hG
  generalize gone f = G at hG hok hlen
  obtain ⟨a, L⟩ := G
  dsimp only at hG hok hlen
  obtain ⟨F, hF⟩ : ∃ F, F = sinL x L := ⟨_, rfl⟩
  have hFl := sinL_len x L
  rw [← hF] at hFl
  dsimp only
  rw [← hF]
  refine VC.bodyC 8 Try.func32 rfl Try.ntmps32 Try.call32 (h.grows_refl) rfl ?_; conv => whnf
  repeat' (first | ((first | refine zs1 ?_ | refine zs2 ?_ | refine zs3 ?_ | refine zs4 ?_ | refine zs5 ?_ | refine zs6 [] ?_); conv => whnf) | ((first | apply zi1 | apply zi2 | apply zi3 | apply zi4 | apply zi5) <;> intro _ <;> conv => whnf) | (refine VCall.intro (hS _) ?_; conv => whnf) | (refine VCall.intro (hG _) ?_; conv => whnf) | (refine VCall.intro (vc_from _ _ _ _) ?_; conv => whnf))
  · exfalso; omega
  · refine VCode.lp (fun k : Nat => [(1, I x), (2, .ptr (.loc 0) 0), (4, .ptr (.loc 1) 0), (9, .gl (.loc 2) 1 (sinL x (L.take k)).length), (31, ends L), (32, I L.length), (33, I k)]) (fun k => [.flat true (encF f), .flat true [DI 0, DI 0], .flat true ((sinL x (L.take k)).flatMap encI)]) (fun k => k ≤ L.length) (fun k => L.length - k) 0 (Nat.zero_le _) ?_ ?_
    · conv => whnf
      refine Retell.turn ⟨[0,1,2], 2, [], []⟩ (TurnOk.mk' _ _ [] [] (OutOk.lift _) rfl (by decide) zb trivial trivial rfl) zv zm
    · intro k hk
      conv => whnf
      refine VIte.dec (fun h3 => ?_) (fun h3 => ?_)
      · have he : L[k]? = some L[k] := List.getElem?_eq_getElem (by omega)
        generalize L[k] = e at he
        have hs := sinL_at (x := x) he
        have hsl := sinL_len x (L.take k)
        rw [List.length_take] at hsl
        generalize sinL x (L.take k) = A at hs hsl
        conv => whnf
        repeat' (first | ((first | refine zs1 ?_ | refine zs2 ?_ | refine zs3 ?_ | refine zs4 ?_ | refine zs5 ?_ | refine zs6 [] ?_); conv => whnf) | ((first | apply zi1 | apply zi2 | apply zi3 | apply zi4 | apply zi5) <;> intro _ <;> conv => whnf) | (refine VAny.ix encE_len k rfl rfl he ?_; conv => whnf))
        · rename_i hc
          refine VMem.app1B e.since encI_len rfl rfl rfl rfl rfl (by omega) ?_
          conv => whnf
          repeat (first | ((first | refine zs1 ?_ | refine zs2 ?_ | refine zs3 ?_ | refine zs4 ?_ | refine zs5 ?_ | refine zs6 [] ?_); conv => whnf))
          refine LEnd.intro (k + 1) (by omega) (by omega) ?_
          conv => whnf
          rw [hs, if_pos hc, List.length_append]
          refine Retell.turn ⟨[0,1,5], 6, [], []⟩ (TurnOk.mk' _ _ [] [] (OutOk.lift _) rfl (by decide) zb trivial trivial rfl) zv zm
        · rename_i hc
          refine LEnd.intro (k + 1) (by omega) (by omega) ?_
          conv => whnf
          rw [hs, if_neg hc]
          refine Retell.turn ⟨[0,1,2], 4, [], []⟩ (TurnOk.mk' _ _ [] [] (OutOk.lift _) rfl (by decide) zb trivial trivial rfl) zv zm
      · have hkl : k = L.length := by omega
        subst hkl
        rw [List.take_length, ← hF]
        conv => whnf
        cases F with
        | nil =>
          repeat' (first | ((first | refine zs1 ?_ | refine zs2 ?_ | refine zs3 ?_ | refine zs4 ?_ | refine zs5 ?_ | refine zs6 [] ?_); conv => whnf) | ((first | apply zi1 | apply zi2 | apply zi3 | apply zi4 | apply zi5) <;> intro _ <;> conv => whnf))
          exact VOut.same rfl
        | cons b r =>
          have hl1 : r.length + 1 ≤ 108108024 := by simp only [List.length_cons] at hFl; omega
          repeat' (first | ((first | refine zs1 ?_ | refine zs2 ?_ | refine zs3 ?_ | refine zs4 ?_ | refine zs5 ?_ | refine zs6 [] ?_); conv => whnf) | ((first | apply zi1 | apply zi2 | apply zi3 | apply zi4 | apply zi5) <;> intro _ <;> conv => whnf))
          refine VCut.at [(4, .ptr (.loc 0) 0), (9, ints (b :: r)), (12, .fp [.func (.func 61) [] []]), (13, .fp [.func (.func 62) [] []])] [.flat true [DI 0, DI 0]] ?_ ?_
          · conv => whnf
            refine Retell.turn ⟨[1], 5, [(2, (b :: r).flatMap encI), (3, [.func (.func 61) [] []]), (4, [.func (.func 62) [] []])], []⟩ (TurnOk.mk' _ _ [(2, (b :: r).flatMap encI), (3, [.func (.func 61) [] []]), (4, [.func (.func 62) [] []])] [] (OutOk.lift _) rfl (by decide) zb zf trivial rfl) zv zm
          · conv => whnf
            repeat' (first | ((first | refine zs1 ?_ | refine zs2 ?_ | refine zs3 ?_ | refine zs4 ?_ | refine zs5 ?_ | refine zs6 [(3, 5)] ?_); conv => whnf) | ((first | apply zi1 | apply zi2 | apply zi3 | apply zi4 | apply zi5) <;> intro _ <;> conv => whnf) | (refine VCall.intro (vc_least (b :: r) _ (by simp only [List.length_cons]; omega)) ?_; conv => whnf) | (refine VCall.intro (vc_most b r _ (by omega)) ?_; conv => whnf))
            exact VOut.same rfl
end Go.Proofs.Ytaodhdpopklipaa

open Go.Vm
namespace Go.Proofs.Ytaodhdpopklipaa
set_option maxRecDepth 20000
set_option maxHeartbeats 2000000

structure Ext2 (S : Int → Prop) (lo hi : Int) : Prop where
  lo1 : S lo
  lo2 : ∀ y, S y → lo ≤ y
  hi1 : S hi
  hi2 : ∀ y, S y → y ≤ hi
theorem Ext2.uniq {S : Int → Prop} {a b c d : Int} (h : Ext2 S a b) (k : Ext2 S c d) : a = c ∧ b = d :=
  ⟨Int.le_antisymm (h.lo2 _ k.lo1) (k.lo2 _ h.lo1), Int.le_antisymm (k.hi2 _ h.hi1) (h.hi2 _ k.hi1)⟩
theorem min_mem : ∀ (r : List Int) (a : Int), (r.foldl min a = a ∨ r.foldl min a ∈ r) ∧ r.foldl min a ≤ a ∧ ∀ y ∈ r, r.foldl min a ≤ y
  | [], a => by simp
  | b :: r, a => by
    obtain ⟨h1, h2, h3⟩ := min_mem r (min a b)
    rw [List.foldl_cons]
    generalize r.foldl min (min a b) = m at h1 h2 h3
    refine ⟨?_, by omega, fun y hy => ?_⟩
    · rcases h1 with h1 | h1
      · rcases Int.le_total a b with h | h
        · left; omega
        · right; rw [h1, Int.min_eq_right h]; simp
      · right; simp [h1]
    · rcases List.mem_cons.1 hy with rfl | hy
      · omega
      · exact h3 y hy
theorem max_mem : ∀ (r : List Int) (a : Int), (r.foldl max a = a ∨ r.foldl max a ∈ r) ∧ a ≤ r.foldl max a ∧ ∀ y ∈ r, y ≤ r.foldl max a
  | [], a => by simp
  | b :: r, a => by
    obtain ⟨h1, h2, h3⟩ := max_mem r (max a b)
    rw [List.foldl_cons]
    generalize r.foldl max (max a b) = m at h1 h2 h3
    refine ⟨?_, by omega, fun y hy => ?_⟩
    · rcases h1 with h1 | h1
      · rcases Int.le_total a b with h | h
        · right; rw [h1, Int.max_eq_right h]; simp
        · left; omega
      · right; simp [h1]
    · rcases List.mem_cons.1 hy with rfl | hy
      · omega
      · exact h3 y hy
theorem ext2_list (a : Int) (r : List Int) : Ext2 (fun y => y ∈ a :: r) (minL (a :: r)) (maxL (a :: r)) := by
  obtain ⟨h1, h2, h3⟩ := min_mem r a
  obtain ⟨g1, g2, g3⟩ := max_mem r a
  have e1 : minL (a :: r) = r.foldl min a := rfl
  have e2 : maxL (a :: r) = r.foldl max a := rfl
  rw [e1, e2]
  refine ⟨?_, fun y hy => ?_, ?_, fun y hy => ?_⟩
  · rcases h1 with h1 | h1
    · rw [h1]; simp
    · exact List.mem_cons_of_mem _ h1
  · rcases List.mem_cons.1 hy with rfl | hy
    · exact h2
    · exact h3 y hy
  · rcases g1 with g1 | g1
    · rw [g1]; simp
    · exact List.mem_cons_of_mem _ g1
  · rcases List.mem_cons.1 hy with rfl | hy
    · exact g2
    · exact g3 y hy
theorem snF_fold (f : Fil) (x : Int) : ∀ (T : List (List Int)) (s : Sn) (S : Int → Prop), (s.found = false → ∀ y, ¬ S y) → (s.found = true → Ext2 S s.lo s.hi) →
    ((T.foldl (snF f x) s).found = false → ∀ y, ¬ (S y ∨ ∃ t ∈ T, own f t = (x, y))) ∧ ((T.foldl (snF f x) s).found = true → Ext2 (fun y => S y ∨ ∃ t ∈ T, own f t = (x, y)) (T.foldl (snF f x) s).lo (T.foldl (snF f x) s).hi)
  | [], s, S, h1, h2 => by simpa using ⟨h1, h2⟩
  | t :: T, s, S, h1, h2 => by
    rw [List.foldl_cons]
    have key : ((snF f x s t).found = false → ∀ y, ¬ (S y ∨ own f t = (x, y))) ∧ ((snF f x s t).found = true → Ext2 (fun y => S y ∨ own f t = (x, y)) (snF f x s t).lo (snF f x s t).hi) := by
      unfold snF
      by_cases hx : (own f t).1 = x
      · rw [if_pos hx]
        have hxy : ∀ y, own f t = (x, y) ↔ y = (own f t).2 := fun y => by
          constructor
          · intro h; rw [h]
          · intro h; rw [h, ← hx]
        simp only [hxy]
        generalize (own f t).2 = z
        refine ⟨by simp, fun _ => ?_⟩
        cases hf : s.found
        · have h1 := h1 hf
          simp only [true_or, if_true]
          exact ⟨.inr rfl, fun y hy => by rcases hy with hy | rfl; exact absurd hy (h1 y); exact Int.le_refl _, .inr rfl, fun y hy => by rcases hy with hy | rfl; exact absurd hy (h1 y); exact Int.le_refl _⟩
        · obtain ⟨a1, a2, a3, a4⟩ := h2 hf
          simp only [Bool.true_eq_false, false_or]
          refine ⟨?_, fun y hy => ?_, ?_, fun y hy => ?_⟩
          · split
            · exact .inr rfl
            · exact .inl a1
          · rcases hy with hy | rfl
            · have := a2 y hy; split <;> omega
            · split <;> omega
          · split
            · exact .inr rfl
            · exact .inl a3
          · rcases hy with hy | rfl
            · have := a4 y hy; split <;> omega
            · split <;> omega
      · rw [if_neg hx]
        have hxy : ∀ y, ¬ own f t = (x, y) := fun y h => hx (by rw [h])
        simp only [hxy, or_false]
        exact ⟨h1, h2⟩
    have := snF_fold f x T (snF f x s t) (fun y => S y ∨ own f t = (x, y)) key.1 key.2
    simpa [or_assoc] using this
theorem sn_spec (f : Fil) (x : Int) : ((sn f x).found = false → ∀ y, ¬ ∃ t ∈ tru f.ps, own f t = (x, y)) ∧ ((sn f x).found = true → Ext2 (fun y => ∃ t ∈ tru f.ps, own f t = (x, y)) (sn f x).lo (sn f x).hi) := by
  have := snF_fold f x (tru f.ps) ⟨false, 0, 0⟩ (fun _ => False) (fun _ _ h => h) (fun h => by cases h)
  simpa [sn] using this
theorem sinL_mem {f : Fil} (h0 : chk f = 0) (x y : Int) : y ∈ sinL x (gone f).2 ↔ ∃ t ∈ tru f.ps, own f t = (x, y) := by
  have K := kinv f f.ps.length (Nat.le_refl _)
  have hT : f.ps.take f.ps.length = f.ps := List.take_length
  unfold sinL
  rw [gone_eq]
  simp only [List.mem_map, List.mem_filter, decide_eq_true_eq]
  constructor
  · rintro ⟨e, ⟨he, rfl⟩, rfl⟩
    obtain ⟨t, ht, hte⟩ := K.out e he
    rw [hT] at ht
    have := own_end (tru_okt h0 ht)
    rw [hte] at this
    exact ⟨t, ht, this.symm⟩
  · rintro ⟨t, ht, hx⟩
    have h1 := K.into t (by rw [hT]; exact ht)
    have := own_end (tru_okt h0 ht)
    rw [hx] at this
    injection this with e1 e2
    exact ⟨_, ⟨h1, e1⟩, e2⟩
theorem vc_Since (f : Fil) (x : Int) (h : Hp) (hn : f.ps.length ≤ 4000000) : VC Try.prog 32 [vF f, I x] h (sinceR f x) h := by
  have hre : ∀ e, sinceE f x = e → e ≠ 0 → sinceR f x = .tuple [.agg [I 0, I 0], I e] := fun e he h0 => by unfold sinceR; rw [he, decide_eq_false h0]; rfl
  by_cases h0 : chk f = 0
  case neg =>
    rw [hre (chk f) (if_pos h0) h0]
    refine VC.body Try.func32 rfl Try.ntmps32 Try.call32 (h.grows_refl) rfl ?_; conv => whnf
    repeat' (first | ((first | refine zs1 ?_ | refine zs2 ?_ | refine zs3 ?_ | refine zs4 ?_ | refine zs5 ?_ | refine zs6 [] ?_); conv => whnf) | ((first | apply zi1 | apply zi2 | apply zi3 | apply zi4 | apply zi5) <;> intro _ <;> conv => whnf) | (refine VCall.intro (vc_check f _ hn) ?_; conv => whnf))
    all_goals first | exact VOut.same rfl | (exfalso; omega)
  case pos =>
    have he2 : sinceE f x = if x < 0 ∨ 1 < x then 4 else bif (sn f x).found then 0 else 7 := by unfold sinceE; rw [if_neg (by simpa using h0)]
    by_cases h1 : x < 0 ∨ 1 < x
    · rw [if_pos h1] at he2
      rw [hre 4 he2 (by decide)]
      have hS : ∀ h, VC Try.prog 18 [vF f] h (I 0) h := fun h => h0 ▸ vc_check f h hn
      refine VC.body Try.func32 rfl Try.ntmps32 Try.call32 (h.grows_refl) rfl ?_; conv => whnf
      repeat' (first | ((first | refine zs1 ?_ | refine zs2 ?_ | refine zs3 ?_ | refine zs4 ?_ | refine zs5 ?_ | refine zs6 [] ?_); conv => whnf) | ((first | apply zi1 | apply zi2 | apply zi3 | apply zi4 | apply zi5) <;> intro _ <;> conv => whnf) | (refine VCall.intro (hS _) ?_; conv => whnf) | (refine VCall.intro (vc_from _ _ _ _) ?_; conv => whnf))
      all_goals first | exact VOut.same rfl | (exfalso; omega)
    · rw [if_neg h1] at he2
      have hm := sinL_mem h0 x
      obtain ⟨s1, s2⟩ := sn_spec f x
      have := vc_SinceG f x h h0 (by omega)
      cases hs : sinL x (gone f).2 with
      | nil =>
        rw [hs] at this
        have hf : (sn f x).found = false := by
          cases hf : (sn f x).found
          · rfl
          · have := (hm _).2 (s2 hf).lo1
            rw [hs] at this; cases this
        rw [hf] at he2
        rw [hre 7 he2 (by decide)]
        exact this
      | cons a r =>
        rw [hs] at this hm
        have hf : (sn f x).found = true := by
          cases hf : (sn f x).found
          · exact absurd ((hm a).1 (by simp)) (s1 hf a)
          · rfl
        have e := ext2_list a r
        have : (fun y => y ∈ a :: r) = fun y => ∃ t ∈ tru f.ps, own f t = (x, y) := funext fun y => propext (hm y)
        rw [this] at e
        obtain ⟨e1, e2⟩ := e.uniq (s2 hf)
        rw [hf] at he2
        have he3 : sinceE f x = 0 := he2
        unfold sinceR
        rw [he3, decide_eq_true rfl, ← e1, ← e2]
        assumption
end Go.Proofs.Ytaodhdpopklipaa

open Go.Vm
namespace Go.Proofs.Ytaodhdpopklipaa
set_option maxRecDepth 20000
set_option maxHeartbeats 2000000

theorem VOut.own1 {h : Hp} {loc : List Blk} {esz n : Nat} {ds : List D} (j L : Nat) (hL : Nat.ble loc.length L = true) (hj : loc[j]? = some (.flat true ds)) : VOut h ⟨h.lift, loc⟩ (.gl (.loc j) esz n) (.gl h.fresh esz n) (h.push (.flat true ds)) := by
  refine VOut.upd [] [.flat true ds] [j] L hL (by intro p hp; cases hp) (by simp) rfl ?_ ?_ rfl
  · intro k b hk
    cases k with
    | zero => rw [List.getElem?_cons_zero, Option.some.injEq] at hk; subst hk; exact ⟨j, rfl, hj⟩
    | succ k => simp at hk
  · intro σ x hx
    have : (V.gl h.fresh esz n).ren (backR h.loc.length [j] L) = .gl (.loc j) esz n := by simp [V.ren, backR, Hp.fresh]
    rw [this]; exact hx
theorem VOut.own2 {h : Hp} {loc : List Blk} {esz n : Nat} {ds : List D} {s : S} (j L : Nat) (hL : Nat.ble loc.length L = true) (hj : loc[j]? = some (.flat true ds)) : VOut h ⟨h.lift, loc⟩ (.tuple [.gl (.loc j) esz n, .s s]) (.tuple [.gl h.fresh esz n, .s s]) (h.push (.flat true ds)) := by
  refine VOut.upd [] [.flat true ds] [j] L hL (by intro p hp; cases hp) (by simp) rfl ?_ ?_ rfl
  · intro k b hk
    cases k with
    | zero => rw [List.getElem?_cons_zero, Option.some.injEq] at hk; subst hk; exact ⟨j, rfl, hj⟩
    | succ k => simp at hk
  · intro σ x hx
    have : (V.tuple [.gl h.fresh esz n, .s s]).ren (backR h.loc.length [j] L) = .tuple [.gl (.loc j) esz n, .s s] := by simp [V.ren, V.rens, backR, Hp.fresh]
    rw [this]; exact hx
theorem VOut.own3 {h : Hp} {loc : List Blk} {esz n : Nat} {ds : List D} {a b : S} (j L : Nat) (hL : Nat.ble loc.length L = true) (hj : loc[j]? = some (.flat true ds)) : VOut h ⟨h.lift, loc⟩ (.agg [.s a, .s b, .gl (.loc j) esz n]) (.agg [.s a, .s b, .gl h.fresh esz n]) (h.push (.flat true ds)) := by
  refine VOut.upd [] [.flat true ds] [j] L hL (by intro p hp; cases hp) (by simp) rfl ?_ ?_ rfl
  · intro k b hk
    cases k with
    | zero => rw [List.getElem?_cons_zero, Option.some.injEq] at hk; subst hk; exact ⟨j, rfl, hj⟩
    | succ k => simp at hk
  · intro σ x hx
    have : (V.agg [.s a, .s b, .gl h.fresh esz n]).ren (backR h.loc.length [j] L) = .agg [.s a, .s b, .gl (.loc j) esz n] := by simp [V.ren, V.rens, backR, Hp.fresh]
    rw [this]; exact hx
theorem vc_darisesO (f : Fil) (t : List Int) (h : Hp) (o : Okt f t) : VC Try.prog 17 [.fp (encDk f t)] h (.gl h.fresh 1 (arL f t).length) (h.push (.flat true ((arL f t).flatMap encI))) := by
  have hn := o.n
  have hlen := o.len
  unfold arL
  refine VC.body Try.func17 rfl Try.ntmps17 Try.call17 (h.grows_push _) rfl ?_
  conv => whnf
  repeat (first | ((first | refine zs1 ?_ | refine zs2 ?_ | refine zs3 ?_ | refine zs4 ?_ | refine zs5 ?_ | refine zs6 [] ?_); conv => whnf))
  refine VCode.lp (fun k : Nat => [(0, .fp (encDk f t)), (3, .gl (.loc 0) 1 (selS (arB f t) k).length), (11, I t.length), (12, I k)]) (fun k => [.flat true ((selS (arB f t) k).flatMap encI)]) (fun k => k ≤ t.length) (fun k => t.length - k) 0 (Nat.zero_le _) ?_ ?_
  · conv => whnf
    refine Retell.turn ⟨[0], 0, [], []⟩ (TurnOk.mk' _ _ [] [] (OutOk.lift _) rfl (by decide) zb trivial trivial rfl) zv zm
  · intro k hk
    have hsl := selS_len (arB f t) k
    conv => whnf
    refine VIte.dec (fun h3 => ?_) (fun h3 => ?_)
    · conv => whnf
      repeat (first | ((first | refine zs1 ?_ | refine zs2 ?_ | refine zs3 ?_ | refine zs4 ?_ | refine zs5 ?_ | refine zs6 [] ?_); conv => whnf))
      refine VCall.intro (vc_chn f t k _ o) ?_
      cases ha : arB f t k
      · rw [chn_none o (by omega) ha]
        conv => whnf
        repeat (first | ((first | refine zs1 ?_ | refine zs2 ?_ | refine zs3 ?_ | refine zs4 ?_ | refine zs5 ?_ | refine zs6 [] ?_); conv => whnf))
        refine LEnd.intro (k + 1) (by omega) (by omega) ?_
        conv => whnf
        rw [selS, ha, if_neg (by simp)]
        refine Retell.turn ⟨[0], 2, [], []⟩ (TurnOk.mk' _ _ [] [] (OutOk.lift _) rfl (by decide) zb trivial trivial rfl) zv zm
      · obtain ⟨hi, hc, _⟩ := chn_some o (by omega) ha
        rw [hc]
        conv => whnf
        repeat (first | ((first | refine zs1 ?_ | refine zs2 ?_ | refine zs3 ?_ | refine zs4 ?_ | refine zs5 ?_ | refine zs6 [] ?_); conv => whnf))
        refine VMem.app1 (k : Int) encI_len rfl rfl rfl rfl rfl (by omega) ?_
        conv => whnf
        repeat (first | ((first | refine zs1 ?_ | refine zs2 ?_ | refine zs3 ?_ | refine zs4 ?_ | refine zs5 ?_ | refine zs6 [] ?_); conv => whnf))
        refine LEnd.intro (k + 1) (by omega) (by omega) ?_
        conv => whnf
        rw [selS, ha, if_pos rfl, List.length_append]
        refine Retell.turn ⟨[3], 4, [], []⟩ (TurnOk.mk' _ _ [] [] (OutOk.lift _) rfl (by decide) zb trivial trivial rfl) zv zm
    · conv => whnf
      have hk' : k = t.length := by omega
      subst hk'
      repeat (first | ((first | refine zs1 ?_ | refine zs2 ?_ | refine zs3 ?_ | refine zs4 ?_ | refine zs5 ?_ | refine zs6 [] ?_); conv => whnf))
      exact VOut.own1 0 1 rfl rfl
theorem vc_ArisesO (f : Fil) (t : List Int) (h : Hp) (hn : f.ps.length ≤ 4000000) (hl : t.length ≤ 4000000) (h0 : toldE f t = 0) : VC Try.prog 27 [vF f, ints t] h (.tuple [.gl h.fresh 1 (arL f t).length, I 0]) (h.push (.flat true ((arL f t).flatMap encI))) := by
  refine VC.body Try.func27 rfl Try.ntmps27 Try.call27 (h.grows_push _) rfl ?_
  conv => whnf
  repeat' (first | ((first | refine zs1 ?_ | refine zs2 ?_ | refine zs3 ?_ | refine zs4 ?_ | refine zs5 ?_ | refine zs6 [] ?_); conv => whnf) | ((first | apply zi1 | apply zi2 | apply zi3 | apply zi4 | apply zi5) <;> intro _ <;> conv => whnf) | (refine VCall.intro (vc_begun_ok f t _ hn hl h0) ?_; conv => whnf))
  refine VCall.intro (vc_darisesO f t _ (told_ok h0)) ?_
  conv => whnf
  repeat (first | ((first | refine zs1 ?_ | refine zs2 ?_ | refine zs3 ?_ | refine zs4 ?_ | refine zs5 ?_ | refine zs6 [] ?_); conv => whnf))
  exact VOut.own2 1 2 rfl rfl
theorem vc_FewestO (f : Fil) (t : List Int) (p : Nat) (h : Hp) (hl : t.length ≤ 4000000) (h0 : toldE f t = 0) (o : Shw f t p) : VC Try.prog 28 [vF f, ints t, I p] h (.tuple [.gl h.fresh 1 (few f t p).length, I 0]) (h.push (.flat true ((few f t p).flatMap encI))) := by
  have hlen := o.len
  have hn' := o.n
  have hlt := o.lt
  have hY := o.y
  obtain ⟨hi, c⟩ := InCh.of o
  have hfar := o.far
  have hph := c.ph
  have hhl := c.hl
  have hfl := fst_le f t p
  have hfin : few f t p = (fewS f t (fst f t p) p p p).reverse := rfl
  have hff : tAt t (fst f t p) ≤ tAt t p := by omega
  rw [hfin]
  have hfl2 := fewS_len f t (fst f t p) p p p
  obtain ⟨F, hF⟩ : ∃ F, F = fewS f t (fst f t p) p p p := ⟨_, rfl⟩
  rw [← hF] at hfl2 ⊢
  obtain ⟨lo, hlo⟩ : ∃ lo, lo = fst f t p := ⟨_, rfl⟩
  refine VC.body Try.func28 rfl Try.ntmps28 Try.call28 (h.grows_push _) rfl ?_
  conv => whnf
  repeat' (first | ((first | refine zs1 ?_ | refine zs2 ?_ | refine zs3 ?_ | refine zs4 ?_ | refine zs5 ?_ | refine zs6 [] ?_); conv => whnf) | ((first | apply zi1 | apply zi2 | apply zi3 | apply zi4 | apply zi5) <;> intro _ <;> conv => whnf) | (refine VCall.intro (vc_shown_ok f t p hi _ hl o h0 c.hc) ?_; conv => whnf))
  rw [← hlo] at hfl hfar hF hff ⊢
  refine VCode.lp (fun x : Nat × List Int => [(1, ints t), (2, I p), (8, .fp (encDk f t)), (9, .ptr (.loc 0) 0), (11, .gl (.loc 1) 1 (x.2 ++ [(x.1 : Int)]).length), (12, I x.1)])
    (fun x => [.flat true [DI lo, DI hi], .flat true ((x.2 ++ [(x.1 : Int)]).flatMap encI)]) (fun x => lo ≤ x.1 ∧ x.1 ≤ p ∧ ∃ n, x.1 ≤ n ∧ F = x.2 ++ fewS f t lo p n x.1) (fun x => x.1) (p, []) ⟨hfl, Nat.le_refl _, p, Nat.le_refl _, hF⟩ ?_ ?_
  · conv => whnf
    refine Retell.turn ⟨[1,2], 3, [], []⟩ (TurnOk.mk' _ _ [] [] (OutOk.lift _) rfl (by decide) zb trivial trivial rfl) zv zm
  · rintro ⟨a, pre⟩ ⟨h1, h2, n, h3, h4⟩
    simp only at h1 h2 h3 h4
    have ha : t[a]? = some t[a] := List.getElem?_eq_getElem (by omega)
    have hp : t[p]? = some t[p] := List.getElem?_eq_getElem (by omega)
    have b1 := o.yr ha
    have b2 := o.yr hp
    have e1 := tAt_eq ha
    have e2 := tAt_eq hp
    have hla : lo < a → jmp f t lo a a < a := by intro h5; have := c.jmp_lt (a := a) (by omega) (by omega); rw [← hlo] at this; exact this
    have hJ := jmp_ge f t lo a a h1
    generalize t[a] = y at ha b1 e1
    generalize t[p] = z at hp b2 e2
    conv => whnf
    repeat' (first | ((first | refine zs1 ?_ | refine zs2 ?_ | refine zs3 ?_ | refine zs4 ?_ | refine zs5 ?_ | refine zs6 [] ?_); conv => whnf) | ((first | apply zi1 | apply zi2 | apply zi3 | apply zi4 | apply zi5) <;> intro _ <;> conv => whnf) | (refine VAny.ix encI_len a rfl rfl ha ?_; conv => whnf) | (refine VAny.ix encI_len p rfl rfl hp ?_; conv => whnf))
    · rename_i h5
      have hlo2 : lo < a := by
        rcases Nat.eq_or_lt_of_le h1 with h6 | h6
        · subst h6; omega
        · exact h6
      have hja := hla hlo2
      obtain ⟨n, rfl⟩ : ∃ m, n = m + 1 := ⟨n - 1, by omega⟩
      rw [fewS, if_pos (by omega)] at h4
      obtain ⟨J, hJe⟩ : ∃ J, J = jmp f t lo a a := ⟨_, rfl⟩
      rw [← hJe] at h4 hja hJ
      have hpl : pre.length ≤ 16 := by
        have := congrArg List.length h4
        simp at this; omega
      refine VCode.lp (fun x : Nat => [(1, ints t), (2, I p), (8, .fp (encDk f t)), (9, .ptr (.loc 0) 0), (11, .gl (.loc 1) 1 (pre ++ [(a : Int)]).length), (12, I a), (13, I x)])
        (fun _ => [.flat true [DI lo, DI hi], .flat true ((pre ++ [(a : Int)]).flatMap encI)]) (fun x => lo ≤ x ∧ x ≤ a ∧ J = jmp f t lo a x) (fun x => x) a ⟨h1, Nat.le_refl _, hJe⟩ ?_ ?_
      · conv => whnf
        refine Retell.turn ⟨[0,1], 2, [], []⟩ (TurnOk.mk' _ _ [] [] (OutOk.lift _) rfl (by decide) zb trivial trivial rfl) zv zm
      · rintro x ⟨g1, g2, g3⟩
        have hx : t[x - 1]? = some t[x - 1] := List.getElem?_eq_getElem (by omega)
        have b3 := o.yr hx
        have e3 := tAt_eq hx
        generalize t[x - 1] = w at hx b3 e3
        have hne : ¬ (lo < x ∧ y - w ≤ f.G) → J = x := by
          intro hg
          rw [g3]
          cases x with
          | zero => rfl
          | succ x =>
            simp only [Nat.add_sub_cancel] at e3
            rw [jmp, if_neg (by omega)]
        have hfin2 : J = x → F = (pre ++ [(a : Int)]) ++ fewS f t lo p n x := by intro hg; rw [h4, hg, List.append_assoc]; rfl
        conv => whnf
        repeat' (first | ((first | refine zs1 ?_ | refine zs2 ?_ | refine zs3 ?_ | refine zs4 ?_ | refine zs5 ?_ | refine zs6 [] ?_); conv => whnf) | ((first | apply zi1 | apply zi2 | apply zi3 | apply zi4 | apply zi5) <;> intro _ <;> conv => whnf) | (refine VAny.ix encI_len a rfl rfl ha ?_; conv => whnf) | (refine VAny.ix encI_len (x - 1) (by omega) rfl hx ?_; conv => whnf))
        · obtain ⟨x, rfl⟩ : ∃ m, x = m + 1 := ⟨x - 1, by omega⟩
          simp only [Nat.add_sub_cancel] at e3
          rw [jmp, if_pos (by omega)] at g3
          refine LEnd.intro x ⟨by omega, by omega, g3⟩ (by omega) ?_
          conv => whnf
          refine Retell.turn ⟨[0,1], 2, [], []⟩ (TurnOk.mk' _ _ [] [] (OutOk.lift _) rfl (by decide) zb trivial trivial rfl) zv zm
        · have hJx := hne (by omega)
          refine VMem.app1 (x : Int) encI_len rfl rfl rfl rfl rfl (by simp; omega) ?_
          conv => whnf
          repeat (first | ((first | refine zs1 ?_ | refine zs2 ?_ | refine zs3 ?_ | refine zs4 ?_ | refine zs5 ?_ | refine zs6 [] ?_); conv => whnf))
          refine LEnd.intro (x, pre ++ [(a : Int)]) ⟨by omega, by omega, n, by omega, hfin2 hJx⟩ (by simp only; omega) ?_
          conv => whnf
          rw [List.length_append (bs := [(x : Int)])]
          refine Retell.turn ⟨[0,3], 4, [], []⟩ (TurnOk.mk' _ _ [] [] (OutOk.lift _) rfl (by decide) zb trivial trivial rfl) zv zm
        · have hJx := hne (by omega)
          refine VMem.app1 (x : Int) encI_len rfl rfl rfl rfl rfl (by simp; omega) ?_
          conv => whnf
          repeat (first | ((first | refine zs1 ?_ | refine zs2 ?_ | refine zs3 ?_ | refine zs4 ?_ | refine zs5 ?_ | refine zs6 [] ?_); conv => whnf))
          refine LEnd.intro (x, pre ++ [(a : Int)]) ⟨by omega, by omega, n, by omega, hfin2 hJx⟩ (by simp only; omega) ?_
          conv => whnf
          rw [List.length_append (bs := [(x : Int)])]
          refine Retell.turn ⟨[0,3], 4, [], []⟩ (TurnOk.mk' _ _ [] [] (OutOk.lift _) rfl (by decide) zb trivial trivial rfl) zv zm
    · have hF2 : F = pre ++ [(a : Int)] := by
        rw [h4]
        cases n with
        | zero => rfl
        | succ n => rw [fewS, if_neg (by omega)]
      rw [← hF2]
      refine VMem.make (n := F.length) (0 : Int) encI_len rfl rfl rfl rfl rfl rfl (by omega) ?_
      conv => whnf
      repeat (first | ((first | refine zs1 ?_ | refine zs2 ?_ | refine zs3 ?_ | refine zs4 ?_ | refine zs5 ?_ | refine zs6 [] ?_); conv => whnf))
      refine VMem.copyGl (l2 := F) encI_len rfl rfl rfl (by simp) rfl rfl ?_
      conv => whnf
      repeat (first | ((first | refine zs1 ?_ | refine zs2 ?_ | refine zs3 ?_ | refine zs4 ?_ | refine zs5 ?_ | refine zs6 [] ?_); conv => whnf))
      refine VCall.intro (vc_reverse F (.loc 2) _ rfl (by omega)) ?_
      conv => whnf
      repeat (first | ((first | refine zs1 ?_ | refine zs2 ?_ | refine zs3 ?_ | refine zs4 ?_ | refine zs5 ?_ | refine zs6 [] ?_); conv => whnf))
      rw [List.length_reverse]
      exact VOut.own2 2 3 rfl rfl
theorem vc_DatedO (Y G : Int) (l : List Int) (h : Hp) (hl : l.length ≤ 4000000) (hb : ∀ y ∈ l, -100000 ≤ y ∧ y ≤ 100000) : VC Try.prog 26 [I Y, I G, ints l] h (.agg [I Y, I G, .gl h.fresh 3 l.length]) (h.push (.flat true ((l.map datP).flatMap encP))) := by
  refine VC.body Try.func26 rfl Try.ntmps26 Try.call26 (h.grows_push _) rfl ?_
  conv => whnf
  repeat (first | ((first | refine zs1 ?_ | refine zs2 ?_ | refine zs3 ?_ | refine zs4 ?_ | refine zs5 ?_ | refine zs6 [] ?_); conv => whnf))
  refine VCode.lp (fun k : Nat => [(6, .ptr (.loc 0) 0), (7, .ptr (.loc 1) 0), (14, ints l), (15, I l.length), (16, I k)])
    (fun k => [.flat true [DI 0, DI 0, .nilslice], .cells true [I Y, I G, .gl (.loc 2) 3 k], .flat true (((l.take k).map datP).flatMap encP)]) (fun k => k ≤ l.length) (fun k => l.length - k) 0 (Nat.zero_le _) ?_ ?_
  · conv => whnf
    refine Retell.turn ⟨[0,1,2], 2, [], []⟩ (TurnOk.mk' _ _ [] [] (OutOk.lift _) rfl (by decide) zb trivial trivial rfl) zv zm
  · intro k hk
    conv => whnf
    refine VIte.dec (fun h3 => ?_) (fun h3 => ?_)
    · have hp : l[k]? = some l[k] := List.getElem?_eq_getElem (by omega)
      have hts : l.take (k + 1) = l.take k ++ [l[k]] := by rw [List.take_add_one, hp]; rfl
      have hbk := hb l[k] (List.getElem_mem (by omega))
      generalize l[k] = y at hp hts hbk
      have hlk : ((l.take k).map datP).length = k := by simp; omega
      conv => whnf
      repeat' (first | ((first | refine zs1 ?_ | refine zs2 ?_ | refine zs3 ?_ | refine zs4 ?_ | refine zs5 ?_ | refine zs6 [] ?_); conv => whnf) | ((first | apply zi1 | apply zi2 | apply zi3 | apply zi4 | apply zi5) <;> intro _ <;> conv => whnf) | (refine VAny.ix encI_len k rfl rfl hp ?_; conv => whnf))
      · rename_i hy
        have hd : datP y = ⟨1, 0 - y, 0 - y⟩ := by rw [datP, if_pos hy]; simp
        refine VMem.app1 (l := (l.take k).map datP) (⟨1, 0 - y, 0 - y⟩ : Pap) encP_len rfl rfl rfl hlk.symm rfl (by omega) ?_
        conv => whnf
        repeat (first | ((first | refine zs1 ?_ | refine zs2 ?_ | refine zs3 ?_ | refine zs4 ?_ | refine zs5 ?_ | refine zs6 [] ?_); conv => whnf))
        refine LEnd.intro (k + 1) (by omega) (by omega) ?_
        conv => whnf
        rw [hts, List.map_append, List.map_cons, List.map_nil, hd]
        refine Retell.turn ⟨[0,1,5], 6, [], []⟩ (TurnOk.mk' _ _ [] [] (OutOk.lift _) rfl (by decide) zb trivial trivial rfl) zv zm
      · rename_i hy
        have hd : datP y = ⟨0, y, y⟩ := if_neg hy
        refine VMem.app1 (l := (l.take k).map datP) (⟨0, y, y⟩ : Pap) encP_len rfl rfl rfl hlk.symm rfl (by omega) ?_
        conv => whnf
        repeat (first | ((first | refine zs1 ?_ | refine zs2 ?_ | refine zs3 ?_ | refine zs4 ?_ | refine zs5 ?_ | refine zs6 [] ?_); conv => whnf))
        refine LEnd.intro (k + 1) (by omega) (by omega) ?_
        conv => whnf
        rw [hts, List.map_append, List.map_cons, List.map_nil, hd]
        refine Retell.turn ⟨[0,1,5], 6, [], []⟩ (TurnOk.mk' _ _ [] [] (OutOk.lift _) rfl (by decide) zb trivial trivial rfl) zv zm
    · have hk2 : k = l.length := by omega
      subst hk2
      rw [List.take_of_length_le (Nat.le_refl _)]
      conv => whnf
      repeat (first | ((first | refine zs1 ?_ | refine zs2 ?_ | refine zs3 ?_ | refine zs4 ?_ | refine zs5 ?_ | refine zs6 [] ?_); conv => whnf))
      exact VOut.own3 2 3 rfl rfl
end Go.Proofs.Ytaodhdpopklipaa

open Go.Vm
namespace Go.Proofs.Ytaodhdpopklipaa
set_option maxRecDepth 20000
set_option maxHeartbeats 2000000

theorem encI_map : ∀ l : List Int, l.flatMap encI = (l.map fun y => S.int .i64 y).map D.s
  | [] => rfl
  | a :: l => by rw [List.flatMap_cons, encI_map l]; rfl
theorem VC.lendI {f : FuncId} {args : List V} {outer : Vm.Id → Option Blk} {loc : List Blk} {n : Nat} {l : List Int} {s : S} (ds : List D) (fz : List (Nat × List D)) (fm : List (Nat × List D × List D))
    (h0 : FzAll ⟨[], loc.length, fz, fm⟩ loc fz) (h0' : FmAll ⟨[], loc.length, fz, fm⟩ loc fm) (hv : VTos ⟨[], loc.length, fz, fm⟩ args (D.vs ds)) (hc : VC Try.prog f (D.vs ds) Hp.bare (.tuple [.gl (.loc 0) 1 n, .s s]) (Hp.bare.push (.flat true (l.flatMap encI)))) :
    VC Try.prog f args ⟨outer, loc⟩ (.tuple [.gl (.loc loc.length) 1 n, .s s]) ⟨outer, loc ++ [.flat true (l.flatMap encI)]⟩ := by
  rw [encI_map] at hc ⊢
  exact VC.lendL ds fz fm h0 h0' hv hc
def yl : List Int := [1700, 1715, 1730, 1745, 1760]
def f1 : Fil := ⟨50, 20, yl.map datP⟩
def f3 : Fil := ⟨50, 30, yl.map datP⟩
def f2 : Fil := ⟨50, 15, [⟨0, 1700, 1700⟩, ⟨0, 1715, 1715⟩, ⟨0, 1728, 1731⟩, ⟨0, 1745, 1745⟩, ⟨0, 1760, 1760⟩]⟩
def y6 : List Int := [1700, 1715, 1730, 1738, 1745, 1760]
def f4 : Fil := ⟨50, 20, [1700, 1715, 1730, -1738, 1745, 1760].map datP⟩
theorem told1 : toldE f1 yl = 0 := by decide +kernel
theorem told3 : toldE f3 yl = 0 := by decide +kernel
theorem told4 : toldE f4 y6 = 0 := by decide +kernel
theorem ar1 : arL f1 yl = [4] := by decide +kernel
theorem few1 : (few f1 yl 4).length = 5 := by decide +kernel
theorem few3 : (few f3 yl 4).length = 3 := by decide +kernel
theorem shw1 : Shw f1 yl 4 := by
  obtain ⟨q, h1, h2⟩ := show_ok (f := f1) (t := yl) (p := 4) (by decide +kernel)
  have : q = 4 := by omega
  rw [← this]; exact h2
theorem shw3 : Shw f3 yl 4 := by
  obtain ⟨q, h1, h2⟩ := show_ok (f := f3) (t := yl) (p := 4) (by decide +kernel)
  have : q = 4 := by omega
  rw [← this]; exact h2
theorem pv1 : pvE f1 yl 4 [1700, 1715, 1730] = 0 := by decide +kernel
theorem pv3 : pvE f3 yl 4 [1715] = 0 := by decide +kernel
theorem chk2 : chk f2 = 0 := by decide +kernel
theorem os2 : osG f2 = [0, 2] := by decide +kernel
theorem tru2 : truE f2 0 = 0 := by decide +kernel
theorem truG2 : truG f2 0 = yl := by decide +kernel
theorem sn2 : sinceE f2 0 = 0 ∧ (sn f2 0).lo = 1760 ∧ (sn f2 0).hi = 1760 := by decide +kernel
theorem chS4 : chS f4 y6 6 = [⟨0, 2⟩, ⟨3, 3⟩, ⟨4, 5⟩] := by decide +kernel
end Go.Proofs.Ytaodhdpopklipaa

open Go.Vm
namespace Go.Proofs.Ytaodhdpopklipaa
set_option maxRecDepth 20000
set_option maxHeartbeats 2000000

def dF (f : Fil) : D := .agg (encF f)
def dL (l : List Int) : D := .sl 1 l.length (l.flatMap encI)
theorem prv1 (h : Hp) : VC Try.prog 29 [vF f1, ints yl, I 4, ints [1700, 1715, 1730]] h (.tuple [I 5, I 0]) h := by
  have := vc_Proves_ok f1 yl 4 [1700, 1715, 1730] h (by decide) (by decide) told1 shw1
  rw [pv1] at this; exact this
theorem prv3 (h : Hp) : VC Try.prog 29 [vF f3, ints yl, I 4, ints [1715]] h (.tuple [I 3, I 0]) h := by
  have := vc_Proves_ok f3 yl 4 [1715] h (by decide) (by decide) told3 shw3
  rw [pv3] at this; exact this
def s4 : List Spn := [⟨0, 2⟩, ⟨3, 3⟩, ⟨4, 5⟩]
theorem ch4 (h : Hp) : VC Try.prog 33 [vF f4, ints y6] h (.tuple [spans s4, I 0]) h := by
  have := vc_Chains f4 y6 h (by decide) (by decide)
  rw [told4, if_pos rfl, show y6.length = 6 from rfl, chS4] at this; exact this
theorem vc_awake (h : Hp) : VC Try.prog 13 [] h (B true) h := by
  refine VC.bodyC 11 Try.func13 rfl Try.ntmps13 Try.call13 (h.grows_refl) rfl ?_; conv => whnf
  repeat (first | ((first | refine zs1 ?_ | refine zs2 ?_ | refine zs3 ?_ | refine zs4 ?_ | refine zs5 ?_ | refine zs6 [] ?_); conv => whnf))
  refine VCall.intro (VC.give (args' := [I 50, I 20, ints yl]) (loc' := [.dead]) [(0, yl.flatMap encI)] [] (OutOk.lift _) zb zf (by exact FmAll.nil) rfl zv (vc_DatedO 50 20 yl _ (by decide) (by decide))) ?_
  conv => whnf
  repeat (first | ((first | refine zs1 ?_ | refine zs2 ?_ | refine zs3 ?_ | refine zs4 ?_ | refine zs5 ?_ | refine zs6 [] ?_); conv => whnf))
  refine VCall.intro (VC.lendI [dF f1, dL yl] [(1, f1.ps.flatMap encP), (2, yl.flatMap encI)] [] zf trivial zv (vc_ArisesO f1 yl Hp.bare (by decide) (by decide) told1)) ?_
  rw [ar1]
  conv => whnf
  repeat (first | ((first | refine zs1 ?_ | refine zs2 ?_ | refine zs3 ?_ | refine zs4 ?_ | refine zs5 ?_ | refine zs6 [] ?_); conv => whnf))
  refine VCall.intro (VC.lendI [dF f1, dL yl, DI 4] [(1, f1.ps.flatMap encP), (2, yl.flatMap encI)] [] zf trivial zv (vc_FewestO f1 yl 4 Hp.bare (by decide) told1 shw1)) ?_
  have hf1 := few1
  generalize few f1 yl 4 = w1 at hf1
  rw [hf1]
  conv => whnf
  repeat (first | ((first | refine zs1 ?_ | refine zs2 ?_ | refine zs3 ?_ | refine zs4 ?_ | refine zs5 ?_ | refine zs6 [] ?_); conv => whnf))
  refine VCall.intro (VC.lendS [dF f1, dL yl, DI 4, dL [1700, 1715, 1730]] [(1, f1.ps.flatMap encP), (2, yl.flatMap encI), (6, [1700, 1715, 1730].flatMap encI)] [] zf trivial zv (prv1 Hp.bare)) ?_
  conv => whnf
  repeat (first | ((first | refine zs1 ?_ | refine zs2 ?_ | refine zs3 ?_ | refine zs4 ?_ | refine zs5 ?_ | refine zs6 [] ?_); conv => whnf))
  refine VCall.intro (VC.lend1 [dL [4], dL [4]] [(4, [4].flatMap encI), (7, [4].flatMap encI)] [] zf trivial zv (vc_equalI [4] [4] Hp.bare (by decide) (by decide))) ?_
  conv => whnf
  repeat (first | ((first | refine zs1 ?_ | refine zs2 ?_ | refine zs3 ?_ | refine zs4 ?_ | refine zs5 ?_ | refine zs6 [] ?_); conv => whnf))
  refine VCall.intro (VC.lendI [dF f3, dL yl, DI 4] [(1, f3.ps.flatMap encP), (2, yl.flatMap encI)] [] zf trivial zv (vc_FewestO f3 yl 4 Hp.bare (by decide) told3 shw3)) ?_
  have hf3 := few3
  generalize few f3 yl 4 = w3 at hf3
  rw [hf3]
  conv => whnf
  repeat (first | ((first | refine zs1 ?_ | refine zs2 ?_ | refine zs3 ?_ | refine zs4 ?_ | refine zs5 ?_ | refine zs6 [] ?_); conv => whnf))
  refine VCall.intro (VC.lendS [dF f3, dL yl, DI 4, dL [1715]] [(1, f3.ps.flatMap encP), (2, yl.flatMap encI), (9, [1715].flatMap encI)] [] zf trivial zv (prv3 Hp.bare)) ?_
  conv => whnf
  repeat (first | ((first | refine zs1 ?_ | refine zs2 ?_ | refine zs3 ?_ | refine zs4 ?_ | refine zs5 ?_ | refine zs6 [] ?_); conv => whnf))
  refine VCut.at [(1, .fp (encF f2)), (2, ints yl)] [] ?_ ?_
  · conv => whnf
    refine Retell.turn ⟨[], 10, [(1, f2.ps.flatMap encP), (2, yl.flatMap encI), (3, encF f2)], []⟩ (TurnOk.mk' _ _ [(1, f2.ps.flatMap encP), (2, yl.flatMap encI), (3, encF f2)] [] (OutOk.lift _) rfl (by decide) BTos.nil (FzAll.flat rfl (FzAll.flat rfl (FzAll.row rfl rfl (RowTo.vtos (l' := [I 50, I 15, .fs 3 5 (f2.ps.flatMap encP)]) zv) FzAll.nil))) trivial rfl) zv zm
  · conv => whnf
    repeat (first | ((first | refine zs1 ?_ | refine zs2 ?_ | refine zs3 ?_ | refine zs4 ?_ | refine zs5 ?_ | refine zs6 [] ?_); conv => whnf))
    refine VCall.intro (vc_Owners_ok f2 _ chk2) ?_
    rw [os2]
    conv => whnf
    repeat (first | ((first | refine zs1 ?_ | refine zs2 ?_ | refine zs3 ?_ | refine zs4 ?_ | refine zs5 ?_ | refine zs6 [] ?_); conv => whnf))
    refine VCall.intro (vc_Truth_ok f2 0 _ tru2) ?_
    rw [truG2]
    conv => whnf
    repeat (first | ((first | refine zs1 ?_ | refine zs2 ?_ | refine zs3 ?_ | refine zs4 ?_ | refine zs5 ?_ | refine zs6 [] ?_); conv => whnf))
    refine VCall.intro (vc_Since f2 0 _ (by decide)) ?_
    rw [show sinceR f2 0 = .tuple [.agg [I 1760, I 1760], I 0] from by unfold sinceR; rw [sn2.1, sn2.2.1, sn2.2.2]; rfl]
    conv => whnf
    repeat (first | ((first | refine zs1 ?_ | refine zs2 ?_ | refine zs3 ?_ | refine zs4 ?_ | refine zs5 ?_ | refine zs6 [] ?_); conv => whnf))
    refine VCall.intro (VC.lend1 [dL [0, 2], dL [0, 2]] [(1, [0, 2].flatMap encI)] [] zf trivial zv (vc_equalI [0, 2] [0, 2] Hp.bare (by decide) (by decide))) ?_
    conv => whnf
    repeat (first | ((first | refine zs1 ?_ | refine zs2 ?_ | refine zs3 ?_ | refine zs4 ?_ | refine zs5 ?_ | refine zs6 [] ?_); conv => whnf))
    refine VCall.intro (vc_equalI yl yl _ (by decide) (by decide)) ?_
    conv => whnf
    repeat (first | ((first | refine zs1 ?_ | refine zs2 ?_ | refine zs3 ?_ | refine zs4 ?_ | refine zs5 ?_ | refine zs6 [] ?_); conv => whnf))
    refine VAgg.intro (show _ = some (B false) from vneqS ⟨1760, 1760⟩ ⟨1760, 1760⟩) ?_
    conv => whnf
    repeat (first | ((first | refine zs1 ?_ | refine zs2 ?_ | refine zs3 ?_ | refine zs4 ?_ | refine zs5 ?_ | refine zs6 [] ?_); conv => whnf))
    refine VCall.intro (VC.give (args' := [I 50, I 20, ints [1700, 1715, 1730, -1738, 1745, 1760]]) (loc' := [.dead, .dead, .dead]) [(2, [1700, 1715, 1730, -1738, 1745, 1760].flatMap encI)] [] (OutOk.lift _) zb zf (by exact FmAll.nil) rfl zv (vc_Dated 50 20 [1700, 1715, 1730, -1738, 1745, 1760] _ (by decide) (by decide))) ?_
    conv => whnf
    repeat (first | ((first | refine zs1 ?_ | refine zs2 ?_ | refine zs3 ?_ | refine zs4 ?_ | refine zs5 ?_ | refine zs6 [] ?_); conv => whnf))
    refine VCall.intro (VC.give (args' := [vF f4, ints y6]) (loc' := [.dead, .dead, .dead, .dead]) [(3, y6.flatMap encI)] [] (OutOk.lift _) zb zf (by exact FmAll.nil) rfl zv (ch4 _)) ?_
    conv => whnf
    repeat (first | ((first | refine zs1 ?_ | refine zs2 ?_ | refine zs3 ?_ | refine zs4 ?_ | refine zs5 ?_ | refine zs6 [] ?_); conv => whnf))
    refine VCall.intro (VC.lend1 [.sl 2 3 (s4.flatMap encS), .sl 2 3 (s4.flatMap encS)] [(4, s4.flatMap encS)] [] zf trivial zv (vc_equalS s4 s4 Hp.bare (by decide) (by decide))) ?_
    conv => whnf
    repeat (first | ((first | refine zs1 ?_ | refine zs2 ?_ | refine zs3 ?_ | refine zs4 ?_ | refine zs5 ?_ | refine zs6 [] ?_); conv => whnf))
    exact VOut.same rfl
end Go.Proofs.Ytaodhdpopklipaa

open Go.Vm
namespace Go.Proofs.Ytaodhdpopklipaa
set_option maxRecDepth 20000
set_option maxHeartbeats 2000000
structure Lad (f : Fil) (t : List Int) (lo p : Nat) : Prop where
  mono : ∀ a b, lo ≤ a → a < b → b ≤ p → tAt t a < tAt t b
  step : ∀ b, lo < b → b ≤ p → jmp f t lo b b < b
  far : f.Y ≤ tAt t p - tAt t lo
  y : 1 ≤ f.Y
  le : lo ≤ p
theorem Lad.of {f : Fil} {t : List Int} {p : Nat} (o : Shw f t p) : Lad f t (fst f t p) p := by
  obtain ⟨hi, c⟩ := InCh.of o
  have h1 := c.ph
  have h2 := c.hl
  exact ⟨fun a b _ hab hb => o.toOkt.mono hab (by omega), c.jmps, o.far, o.y.1, fst_le f t p⟩
end Go.Proofs.Ytaodhdpopklipaa

open Go.Vm
namespace Go.Proofs.Ytaodhdpopklipaa
set_option maxRecDepth 20000
set_option maxHeartbeats 4000000

abbrev DU (n : Int) : D := .s (.int .u32 n)
def encU (n : Int) : List D := [.s (.int .u8 n)]
theorem encU_len (n : Int) : (encU n).length = 1 := rfl
def bytes (l : List Int) : V := .fs 1 l.length (l.flatMap encU)
def deckD (bs : List Int) (n s : Int) : List D := [.sl 1 bs.length (bs.flatMap encU), DI n, DU s]
theorem VOut.setS {h : Hp} {loc : List Blk} {i : Vm.Id} {b0 : Blk} {l : List D} {rw : Bool} {x : S} {L : Nat} (hL : Nat.ble loc.length L = true) (hb : h.get i = some b0) : VOut h ⟨outW h.lift i (.flat rw l), loc⟩ (.s x) (.s x) (h.set i (.flat rw l)) := by
  have hd : ∀ p ∈ [(i, Blk.flat rw l)], h.get p.1 ≠ none := by
    intro p hp
    simp only [List.mem_cons, List.not_mem_nil, or_false] at hp
    subst hp; simp only; rw [hb]; simp
  have := VOut.upd (loc := loc) (r1 := .s x) (r := .s x) [(i, .flat rw l)] [] [] L hL hd (by simp) rfl (by intro k b hk; simp at hk) (fun σ x hx => hx) (outer := outW h.lift i (.flat rw l)) rfl
  have he : (h.sets [(i, Blk.flat rw l)]).pushes [] = h.set i (.flat rw l) := by simp [Hp.sets, Hp.pushes]
  rw [he] at this
  exact this
theorem set_same {h : Hp} {i : Vm.Id} {b : Blk} (hb : h.get i = some b) : h.set i b = h := by
  cases i with
  | out i =>
    have hb : h.outer i = some b := hb
    obtain ⟨o, l⟩ := h
    simp only [Hp.set]
    congr 1
    funext j
    split
    · rename_i e; rw [e]; exact hb.symm
    · rfl
  | loc k =>
    have hb : h.loc[k]? = some b := hb
    obtain ⟨o, l⟩ := h
    simp only [Hp.set]
    congr 1
    obtain ⟨h1, h2⟩ := List.getElem?_eq_some_iff.1 hb
    rw [← h2]; exact List.set_getElem_self h1
theorem VOut.set2 {h : Hp} {loc : List Blk} {i : Vm.Id} {b0 b1 : Blk} {l : List D} {rw : Bool} {x : S} (hb : h.get i = some b0) : VOut h ⟨outW (outW h.lift i b1) i (.flat rw l), loc⟩ (.s x) (.s x) (h.set i (.flat rw l)) := by
  rw [outW_same]
  exact VOut.setS (L := loc.length) (by simp) hb
theorem vc_Draw0 (bs : List Int) (n s k : Int) (i : Vm.Id) (h : Hp) (hb : h.get i = some (.flat true (deckD bs n s))) (hk : k ≤ 1 ∨ bs = []) : VC Try.prog 14 [.ptr i 0, I k] h (I 0) (h.set i (.flat true (deckD bs n s))) := by
  rw [set_same hb]
  have hl : k ≤ 1 ∨ bs.length = 0 := by rcases hk with h1 | h1; exact .inl h1; exact .inr (by rw [h1]; rfl)
  refine VC.body Try.func14 rfl Try.ntmps14 Try.call14 (h.grows_refl) rfl ?_; conv => whnf
  repeat' (first | ((first | refine zs1 ?_ | refine zs2 ?_ | refine zs3 ?_ | refine zs4 ?_ | refine zs5 ?_); conv => whnf) | ((first | apply zi1 | apply zi2 | apply zi3 | apply zi4 | apply zi5) <;> intro _ <;> conv => whnf) | (refine VLd.flat rfl rfl (get_out hb _) rfl ?_; conv => whnf))
  · exact VOut.same rfl
  · exact VOut.same rfl
  · exfalso; omega
def dRd (bs : List Int) (N : Nat) : Int := IntKind.u32.wrap (IntKind.i64.wrap ((N : Int).tdiv (bs.length : Int)))
def dSt (bs : List Int) (N : Nat) (s c : Int) : Int := (IntKind.u32.wrap (IntKind.u32.wrap (IntKind.u32.wrap (s * 37) + IntKind.u32.wrap c) + IntKind.u32.wrap (101 * dRd bs N))).tmod 65521
def dR (bs : List Int) (N : Nat) (s k c : Int) : Int := if k ≤ 256 ∧ dRd bs N = 0 then (IntKind.i64.wrap (IntKind.u32.wrap c)).tmod k else (IntKind.i64.wrap (IntKind.u32.wrap (IntKind.u32.wrap (dSt bs N s c * 256) + IntKind.u32.wrap c))).tmod k
theorem u32_bd (n : Int) : 0 ≤ IntKind.u32.wrap n ∧ IntKind.u32.wrap n < 4294967296 := by
  unfold IntKind.wrap; simp [IntKind.bits, IntKind.signed]; omega
theorem tmod_bd {a k : Int} (ha : 0 ≤ a) (hk : 0 < k) : 0 ≤ a.tmod k ∧ a.tmod k < k := by
  rw [Int.tmod_eq_emod_of_nonneg ha]
  exact ⟨Int.emod_nonneg _ (by omega), Int.emod_lt_of_pos _ hk⟩
theorem dR_bd (bs : List Int) (N : Nat) (s c : Int) {k : Int} (hk : 0 < k) : 0 ≤ dR bs N s k c ∧ dR bs N s k c < k := by
  unfold dR
  split
  · have := u32_bd c
    rw [wrap_i64 (by omega)]
    exact tmod_bd this.1 hk
  · have := u32_bd (IntKind.u32.wrap (dSt bs N s c * 256) + IntKind.u32.wrap c)
    rw [wrap_i64 (by omega)]
    exact tmod_bd this.1 hk
theorem vc_Draw1 (bs : List Int) (N : Nat) (s k c : Int) (i : Vm.Id) (h : Hp) (hb : h.get i = some (.flat true (deckD bs N s))) (hk : 1 < k) (hc : bs[N % bs.length]? = some c) (hN : N ≤ 4000000000) :
    VC Try.prog 14 [.ptr i 0, I k] h (I (dR bs N s k c)) (h.set i (.flat true (deckD bs ((N : Int) + 1) (dSt bs N s c)))) := by
  have hlen : 0 < bs.length := by
    have := (List.getElem?_eq_some_iff.1 hc).1
    omega
  have hneB : ((bs.length : Int) != 0) = true := by rw [bne_iff_ne]; omega
  obtain ⟨R, hR⟩ : ∃ R, R = dR bs N s k c := ⟨_, rfl⟩
  rw [← hR]
  unfold dR at hR
  refine VC.body Try.func14 rfl Try.ntmps14 Try.call14 (h.grows_set _ _) rfl ?_
  conv => whnf
  repeat' (first | ((first | refine zs1 ?_ | refine zs2 ?_ | refine zs3 ?_ | refine zs4 ?_ | refine zs5 ?_ | refine zs6 [] ?_); conv => whnf) | ((first | apply zi1 | apply zi2 | apply zi3 | apply zi4 | apply zi5) <;> intro _ <;> conv => whnf) | (refine VLd.flat rfl rfl (get_out hb _) rfl ?_; conv => whnf) | (refine VAny.ix encU_len (N % bs.length) (by rfl) rfl hc ?_; conv => whnf) | (refine VLd.flat rfl rfl (outW_get _ _ _ _) rfl ?_; conv => whnf) | (refine VMem.st1 rfl rfl rfl (get_out hb _) rfl ?_; conv => whnf) | (refine VMem.st1 rfl rfl rfl (outW_get _ _ _ _) rfl ?_; conv => whnf) | (refine VArith.wr ?_; conv => whnf) | (refine VNeed.intro hneB ?_; conv => whnf))
  · exfalso; omega
  · exfalso; omega
  · rename_i h1 h2
    have h2 : dRd bs N = 0 := h2
    rw [if_pos ⟨h1, h2⟩] at hR
    subst hR
    refine VOut.set2 hb
  · rename_i h1 h2
    have h2 : ¬ dRd bs N = 0 := h2
    rw [if_neg (fun h => h2 h.2)] at hR
    subst hR
    refine VOut.set2 hb
  · rename_i h1
    rw [if_neg (fun h => h1 h.1)] at hR
    subst hR
    refine VOut.set2 hb
theorem vc_Draw (bs : List Int) (N : Nat) (s k : Int) (hN : N ≤ 4000000000) : ∃ (r s' : Int) (N' : Nat), 0 ≤ r ∧ (r = 0 ∨ r < k) ∧ N' ≤ N + 1 ∧ ∀ (i : Vm.Id) (h : Hp), h.get i = some (.flat true (deckD bs N s)) → VC Try.prog 14 [.ptr i 0, I k] h (I r) (h.set i (.flat true (deckD bs N' s'))) := by
  by_cases hk : k ≤ 1 ∨ bs = []
  · exact ⟨0, s, N, Int.le_refl _, .inl rfl, by omega, fun i h hb => vc_Draw0 bs N s k i h hb hk⟩
  · have hlen := List.length_pos_iff.2 (fun h => hk (.inr h))
    obtain ⟨c, hc⟩ : ∃ c, bs[N % bs.length]? = some c := ⟨_, List.getElem?_eq_getElem (Nat.mod_lt _ hlen)⟩
    obtain ⟨q1, q2⟩ := dR_bd bs N s c (k := k) (by omega)
    exact ⟨_, _, N + 1, q1, .inr q2, Nat.le_refl _, fun i h hb => vc_Draw1 bs N s k _ i h hb (by omega) hc hN⟩
theorem vc_Between (bs : List Int) (N : Nat) (s a b : Int) (hN : N ≤ 4000000000) (ha : -1000000 ≤ a ∧ a ≤ 1000000) (hb : -1000000 ≤ b ∧ b ≤ 1000000) (hab : a ≤ b) : ∃ (r s' : Int) (N' : Nat), a ≤ r ∧ r ≤ b ∧ N' ≤ N + 1 ∧ ∀ (i : Vm.Id) (h : Hp), h.get i = some (.flat true (deckD bs N s)) → VC Try.prog 5 [.ptr i 0, I a, I b] h (I r) (h.set i (.flat true (deckD bs N' s'))) := by
  obtain ⟨r, s', N', h1, h2, h3, h4⟩ := vc_Draw bs N s (b - a + 1) hN
  refine ⟨a + r, s', N', by omega, by omega, h3, fun i h hb2 => ?_⟩
  refine VC.body Try.func5 rfl Try.ntmps5 Try.call5 (h.grows_set _ _) rfl ?_
  conv => whnf
  repeat' (first | ((first | refine zs1 ?_ | refine zs2 ?_ | refine zs3 ?_ | refine zs4 ?_ | refine zs5 ?_ | refine zs6 [] ?_); conv => whnf) | ((first | apply zi1 | apply zi2 | apply zi3 | apply zi4 | apply zi5) <;> intro _ <;> conv => whnf) | (refine VCall.intro (h4 (.out i) _ (get_out hb2 _)) ?_; conv => whnf))
  exact VOut.setS (L := 0) rfl hb2
end Go.Proofs.Ytaodhdpopklipaa

open Go.Vm
namespace Go.Proofs.Ytaodhdpopklipaa
set_option maxRecDepth 20000
set_option maxHeartbeats 4000000

def dNx (bs : List Int) (d : Nat × Int) (k : Int) : Int × (Nat × Int) :=
  if k ≤ 1 ∨ bs = [] then (0, d) else (dR bs d.1 d.2 k (bs.getD (d.1 % bs.length) 0), (d.1 + 1, dSt bs d.1 d.2 (bs.getD (d.1 % bs.length) 0)))
def deckB (bs : List Int) (d : Nat × Int) : Blk := .flat true (deckD bs d.1 d.2)
theorem dNx_bd (bs : List Int) (d : Nat × Int) (k : Int) : 0 ≤ (dNx bs d k).1 ∧ ((dNx bs d k).1 = 0 ∨ (dNx bs d k).1 < k) ∧ (dNx bs d k).2.1 ≤ d.1 + 1 := by
  unfold dNx
  split
  · exact ⟨Int.le_refl _, .inl rfl, by simp only; omega⟩
  · rename_i h
    obtain ⟨q1, q2⟩ := dR_bd bs d.1 d.2 (bs.getD (d.1 % bs.length) 0) (k := k) (by omega)
    exact ⟨q1, .inr q2, Nat.le_refl _⟩
theorem vc_draw (bs : List Int) (d : Nat × Int) (k : Int) (i : Vm.Id) (h : Hp) (hN : d.1 ≤ 4000000000) (hb : h.get i = some (deckB bs d)) : VC Try.prog 14 [.ptr i 0, I k] h (I (dNx bs d k).1) (h.set i (deckB bs (dNx bs d k).2)) := by
  unfold dNx deckB at *
  split
  · rename_i hk; exact vc_Draw0 bs d.1 d.2 k i h hb hk
  · rename_i hk
    have hlen := List.length_pos_iff.2 (fun h => hk (.inr h))
    have hc : bs[d.1 % bs.length]? = some (bs.getD (d.1 % bs.length) 0) := by simp [List.getElem?_eq_getElem (Nat.mod_lt d.1 hlen)]
    exact vc_Draw1 bs d.1 d.2 k _ i h hb (by omega) hc hN
theorem vc_between (bs : List Int) (d : Nat × Int) (a b : Int) (i : Vm.Id) (h : Hp) (hN : d.1 ≤ 4000000000) (ha : -1000000 ≤ a ∧ a ≤ 1000000) (hb : -1000000 ≤ b ∧ b ≤ 1000000) (hd : h.get i = some (deckB bs d)) : VC Try.prog 5 [.ptr i 0, I a, I b] h (I (a + (dNx bs d (b - a + 1)).1)) (h.set i (deckB bs (dNx bs d (b - a + 1)).2)) := by
  have hbd := dNx_bd bs d (b - a + 1)
  have hD := fun i h hh => vc_draw bs d (b - a + 1) i h hN hh
  generalize dNx bs d (b - a + 1) = x at hbd hD
  refine VC.body Try.func5 rfl Try.ntmps5 Try.call5 (h.grows_set _ _) rfl ?_
  conv => whnf
  repeat' (first | ((first | refine zs1 ?_ | refine zs2 ?_ | refine zs3 ?_ | refine zs4 ?_ | refine zs5 ?_ | refine zs6 [] ?_); conv => whnf) | ((first | apply zi1 | apply zi2 | apply zi3 | apply zi4 | apply zi5) <;> intro _ <;> conv => whnf) | (refine VCall.intro (hD (.out i) _ (get_out hd _)) ?_; conv => whnf))
  exact VOut.setS (L := 0) rfl hd
theorem vc_coin (bs : List Int) (d : Nat × Int) (k : Int) (i : Vm.Id) (h : Hp) (hN : d.1 ≤ 4000000000) (hd : h.get i = some (deckB bs d)) : VC Try.prog 15 [.ptr i 0, I k] h (B ((dNx bs d k).1 == 0)) (h.set i (deckB bs (dNx bs d k).2)) := by
  have hD := fun i h hh => vc_draw bs d k i h hN hh
  generalize dNx bs d k = x at hD
  refine VC.body Try.func15 rfl Try.ntmps15 Try.call15 (h.grows_set _ _) rfl ?_
  conv => whnf
  repeat' (first | ((first | refine zs1 ?_ | refine zs2 ?_ | refine zs3 ?_ | refine zs4 ?_ | refine zs5 ?_ | refine zs6 [] ?_); conv => whnf) | ((first | apply zi1 | apply zi2 | apply zi3 | apply zi4 | apply zi5) <;> intro _ <;> conv => whnf) | (refine VCall.intro (hD (.out i) _ (get_out hd _)) ?_; conv => whnf))
  exact VOut.setS (L := 0) rfl hd
theorem VOut.ownP {h : Hp} {loc : List Blk} {ds : List D} (j L : Nat) (hL : Nat.ble loc.length L = true) (hj : loc[j]? = some (.flat true ds)) : VOut h ⟨h.lift, loc⟩ (.ptr (.loc j) 0) (.ptr h.fresh 0) (h.push (.flat true ds)) := by
  refine VOut.upd [] [.flat true ds] [j] L hL (by intro p hp; cases hp) (by simp) rfl ?_ ?_ rfl
  · intro k b hk
    cases k with
    | zero => rw [List.getElem?_cons_zero, Option.some.injEq] at hk; subst hk; exact ⟨j, rfl, hj⟩
    | succ k => simp at hk
  · intro σ x hx
    have : (V.ptr h.fresh 0).ren (backR h.loc.length [j] L) = .ptr (.loc j) 0 := by simp [V.ren, backR, Hp.fresh]
    rw [this]; exact hx
theorem vc_Of (bs : List Int) (h : Hp) : VC Try.prog 4 [bytes bs] h (.ptr h.fresh 0) (h.push (deckB bs (0, 9))) := by
  refine VC.body Try.func4 rfl Try.ntmps4 Try.call4 (h.grows_push _) rfl ?_
  conv => whnf
  repeat (first | ((first | refine zs1 ?_ | refine zs2 ?_ | refine zs3 ?_ | refine zs4 ?_ | refine zs5 ?_ | refine zs6 [] ?_); conv => whnf))
  exact VOut.ownP 0 1 rfl rfl
theorem VOut.setF {h : Hp} {loc : List Blk} {i : Vm.Id} {b0 : Blk} {l : List D} {rw : Bool} {r : V} {L : Nat} (hL : Nat.ble loc.length L = true) (hb : h.get i = some b0) (hr : ∀ ρ, r.ren ρ = r) : VOut h ⟨outW h.lift i (.flat rw l), loc⟩ r r (h.set i (.flat rw l)) := by
  have hd : ∀ p ∈ [(i, Blk.flat rw l)], h.get p.1 ≠ none := by
    intro p hp
    simp only [List.mem_cons, List.not_mem_nil, or_false] at hp
    subst hp; simp only; rw [hb]; simp
  have := VOut.upd (loc := loc) (r1 := r) (r := r) [(i, .flat rw l)] [] [] L hL hd (by simp) rfl (by intro k b hk; simp at hk) (fun σ x hx => by rw [hr]; exact hx) (outer := outW h.lift i (.flat rw l)) rfl
  have he : (h.sets [(i, Blk.flat rw l)]).pushes [] = h.set i (.flat rw l) := by simp [Hp.sets, Hp.pushes]
  rw [he] at this
  exact this
/-! ### A file that is made of numbers -/

structure MS where
  d : Nat × Int
  year : Int
  side : Int
  ps : List Pap
def mStep (bs : List Int) (yrs : Int) (m : MS) : MS :=
  ⟨(dNx bs (dNx bs (dNx bs m.d 6).2 yrs).2 (14 - 1 + 1)).2,
   m.year + (dNx bs (dNx bs m.d 6).2 yrs).1 + (1 + (dNx bs (dNx bs (dNx bs m.d 6).2 yrs).2 (14 - 1 + 1)).1),
   bif (dNx bs m.d 6).1 == 0 then 1 - m.side else m.side,
   m.ps ++ [⟨bif (dNx bs m.d 6).1 == 0 then 1 - m.side else m.side, m.year, m.year + (dNx bs (dNx bs m.d 6).2 yrs).1⟩]⟩
def mIt (bs : List Int) (yrs : Int) (m : MS) : Nat → MS
  | 0 => m
  | k + 1 => mStep bs yrs (mIt bs yrs m k)
structure MOk (yrs : Int) (k : Nat) (N : Nat) (m : MS) : Prop where
  n : m.d.1 ≤ N + 3 * k
  year : 0 ≤ m.year ∧ m.year ≤ 50 + 20 * k
  side : m.side = 0 ∨ m.side = 1
  len : m.ps.length = k
  paps : ∀ p ∈ m.ps, (p.side = 0 ∨ p.side = 1) ∧ 0 ≤ p.lo ∧ p.lo ≤ p.hi ∧ p.hi < p.lo + yrs ∧ p.hi < m.year
  asc : ∀ last : Int, (∀ p ∈ m.ps, last < p.lo) → m.ps.Pairwise (fun p q => p.hi < q.lo)
theorem MOk.step {bs : List Int} {yrs : Int} {k N : Nat} {m : MS} (h : MOk yrs k N m) (hy : 1 ≤ yrs ∧ yrs ≤ 5) : MOk yrs (k + 1) N (mStep bs yrs m) := by
  obtain ⟨a1, a2, a3⟩ := dNx_bd bs m.d 6
  obtain ⟨b1, b2, b3⟩ := dNx_bd bs (dNx bs m.d 6).2 yrs
  obtain ⟨c1, c2, c3⟩ := dNx_bd bs (dNx bs (dNx bs m.d 6).2 yrs).2 (14 - 1 + 1)
  obtain ⟨n1, n2, n3, n4, n5, n6⟩ := h
  unfold mStep
  generalize dNx bs (dNx bs (dNx bs m.d 6).2 yrs).2 (14 - 1 + 1) = z at c1 c2 c3
  generalize dNx bs (dNx bs m.d 6).2 yrs = y at b1 b2 b3 c3
  generalize dNx bs m.d 6 = x at a1 a2 a3 b3
  obtain ⟨S, hS, hS2⟩ : ∃ S, S = (bif x.1 == 0 then 1 - m.side else m.side) ∧ (S = 0 ∨ S = 1) := by
    refine ⟨_, rfl, ?_⟩
    cases x.1 == 0 <;> simp only [cond_true, cond_false] <;> omega
  rw [← hS]
  refine ⟨by simp only; omega, by simp only; omega, hS2, by simp [n4], ?_, ?_⟩
  · intro p hp
    simp only [List.mem_append, List.mem_singleton] at hp ⊢
    rcases hp with hp | rfl
    · have := n5 p hp
      exact ⟨this.1, this.2.1, this.2.2.1, this.2.2.2.1, by omega⟩
    · exact ⟨hS2, by simp only; omega, by simp only; omega, by simp only; omega, by simp only; omega⟩
  · intro last _
    simp only
    rw [List.pairwise_append]
    refine ⟨n6 (-1) (fun p hp => by have := (n5 p hp).2.1; omega), by simp, fun p hp q hq => ?_⟩
    rw [List.mem_singleton] at hq
    subst hq
    exact (n5 p hp).2.2.2.2
theorem mIt_ok {bs : List Int} {yrs : Int} {N : Nat} {m : MS} (h : MOk yrs 0 N m) (hy : 1 ≤ yrs ∧ yrs ≤ 5) : ∀ k, MOk yrs k N (mIt bs yrs m k)
  | 0 => h
  | k + 1 => (mIt_ok h hy k).step hy
def mY (bs : List Int) (d : Nat × Int) : Int := 5 + (dNx bs d (60 - 5 + 1)).1
def mG (bs : List Int) (d : Nat × Int) : Int := 4 + (dNx bs (dNx bs d (60 - 5 + 1)).2 (20 - 4 + 1)).1
def mD2 (bs : List Int) (d : Nat × Int) : Nat × Int := (dNx bs (dNx bs d (60 - 5 + 1)).2 (20 - 4 + 1)).2
def m0 (bs : List Int) (d : Nat × Int) (papers : Int) : MS :=
  ⟨(dNx bs (dNx bs (dNx bs (mD2 bs d) 50).2 2).2 (papers + 1)).2, (dNx bs (mD2 bs d) 50).1, (dNx bs (dNx bs (mD2 bs d) 50).2 2).1, []⟩
def mN (bs : List Int) (d : Nat × Int) (papers : Int) : Nat := (dNx bs (dNx bs (dNx bs (mD2 bs d) 50).2 2).2 (papers + 1)).1.toNat
def mEnd (bs : List Int) (d : Nat × Int) (papers yrs : Int) : MS := mIt bs yrs (m0 bs d papers) (mN bs d papers)
def mFile (bs : List Int) (d : Nat × Int) (papers yrs : Int) : Fil := ⟨mY bs d, mG bs d, (mEnd bs d papers yrs).ps⟩
theorem vc_Made (bs : List Int) (d : Nat × Int) (papers yrs : Int) (i : Vm.Id) (h : Hp) (hN : d.1 ≤ 1000000) (hp : 0 ≤ papers ∧ papers ≤ 16) (hy : 1 ≤ yrs ∧ yrs ≤ 4) (hd : h.get i = some (deckB bs d)) :
    VC Try.prog 6 [.ptr i 0, I papers, I yrs] h (vF (mFile bs d papers yrs)) (h.set i (deckB bs (mEnd bs d papers yrs).d)) := by
  have e1 := dNx_bd bs d (60 - 5 + 1)
  have c1 := fun (h2 : Hp) hh => vc_between bs d 5 60 (.out i) h2 (by omega) (by omega) (by omega) hh
  obtain ⟨x1, hx1⟩ : ∃ x, x = dNx bs d (60 - 5 + 1) := ⟨_, rfl⟩
  rw [← hx1] at e1 c1
  have e2 := dNx_bd bs x1.2 (20 - 4 + 1)
  have c2 := fun (h2 : Hp) hh => vc_between bs x1.2 4 20 (.out i) h2 (by omega) (by omega) (by omega) hh
  obtain ⟨x2, hx2⟩ : ∃ x, x = dNx bs x1.2 (20 - 4 + 1) := ⟨_, rfl⟩
  rw [← hx2] at e2 c2
  have e3 := dNx_bd bs x2.2 50
  have c3 := fun (h2 : Hp) hh => vc_draw bs x2.2 50 (.out i) h2 (by omega) hh
  obtain ⟨x3, hx3⟩ : ∃ x, x = dNx bs x2.2 50 := ⟨_, rfl⟩
  rw [← hx3] at e3 c3
  have e4 := dNx_bd bs x3.2 2
  have c4 := fun (h2 : Hp) hh => vc_draw bs x3.2 2 (.out i) h2 (by omega) hh
  obtain ⟨x4, hx4⟩ : ∃ x, x = dNx bs x3.2 2 := ⟨_, rfl⟩
  rw [← hx4] at e4 c4
  have e5 := dNx_bd bs x4.2 (papers + 1)
  have c5 := fun (h2 : Hp) hh => vc_draw bs x4.2 (papers + 1) (.out i) h2 (by omega) hh
  obtain ⟨x5, hx5⟩ : ∃ x, x = dNx bs x4.2 (papers + 1) := ⟨_, rfl⟩
  rw [← hx5] at e5 c5
  have hE : mEnd bs d papers yrs = mIt bs yrs ⟨x5.2, x3.1, x4.1, []⟩ x5.1.toNat := by unfold mEnd m0 mN mD2; rw [← hx1, ← hx2, ← hx3, ← hx4, ← hx5]
  have hF : mFile bs d papers yrs = ⟨5 + x1.1, 4 + x2.1, (mEnd bs d papers yrs).ps⟩ := by unfold mFile mY mG; rw [← hx1, ← hx2]
  rw [hF, hE]
  have hk0 : MOk yrs 0 x5.2.1 ⟨x5.2, x3.1, x4.1, []⟩ := ⟨by simp only; omega, by simp only; omega, by simp only; omega, rfl, by simp, by simp⟩
  have hok := fun k => mIt_ok (bs := bs) hk0 (by omega) k
  obtain ⟨n, hn⟩ : ∃ n : Nat, x5.1 = n := ⟨x5.1.toNat, by omega⟩
  have hn16 : n ≤ 16 := by omega
  rw [hn, Int.toNat_natCast]
  rw [hn] at c5
  obtain ⟨M0, hM0⟩ : ∃ m, m = MS.mk x5.2 x3.1 x4.1 [] := ⟨_, rfl⟩
  rw [← hM0] at hok ⊢
  have hM1 : M0.d = x5.2 := by rw [hM0]
  have hM2 : M0.year = x3.1 := by rw [hM0]
  have hM3 : M0.side = x4.1 := by rw [hM0]
  have hM4 : M0.ps = [] := by rw [hM0]
  clear hE hF hk0 hx1 hx2 hx3 hx4 hx5 hM0
  refine VC.body Try.func6 rfl Try.ntmps6 Try.call6 (h.grows_set _ _) rfl ?_
  conv => whnf
  repeat' (first | ((first | refine zs1 ?_ | refine zs2 ?_ | refine zs3 ?_ | refine zs4 ?_ | refine zs5 ?_ | refine zs6 [] ?_); conv => whnf) | ((first | apply zi1 | apply zi2 | apply zi3 | apply zi4 | apply zi5) <;> intro _ <;> conv => whnf) | (refine VCall.intro (c1 _ (get_out hd _)) ?_; conv => whnf) | (refine VCall.intro (c2 _ (outW_get _ _ _ _)) ?_; conv => whnf) | (refine VCall.intro (c3 _ (outW_get _ _ _ _)) ?_; conv => whnf) | (refine VCall.intro (c4 _ (outW_get _ _ _ _)) ?_; conv => whnf) | (refine VCall.intro (c5 _ (outW_get _ _ _ _)) ?_; conv => whnf))
  refine VCode.lpo (fun y : Nat × MS => [(0, .ptr (.out i) 0), (2, I yrs), (6, .ptr (.loc 0) 0), (7, .ptr (.loc 1) 0), (8, I y.2.year), (9, I y.2.side), (23, I n), (24, I y.1)]) (fun y => outW h.lift i (deckB bs y.2.d))
    (fun y => [.flat true [DI 0, DI 0, .nilslice], .cells true [I (5 + x1.1), I (4 + x2.1), .gl (.loc 2) 3 y.2.ps.length], .flat true (y.2.ps.flatMap encP)]) (fun y => y.1 ≤ n ∧ y.2 = mIt bs yrs M0 y.1) (fun y => n - y.1) (0, M0) ⟨Nat.zero_le _, rfl⟩ ?_ ?_ ?_
  · rw [← hM1]; funext j; by_cases e : j = i <;> simp [outW, e, Hp.set]
  · conv => whnf
    rw [← hM2, ← hM3, hM4]
    refine Retell.turn ⟨[0,1,2], 2, [], []⟩ (TurnOk.mk' _ _ [] [] (OutOk.outW (OutOk.lift _) rfl) rfl (by decide) zb trivial trivial rfl) zv zm
  · rintro ⟨k, m⟩ ⟨hk, hm⟩
    dsimp only at hk hm
    have hmk := hok k
    have hnx : mIt bs yrs M0 (k + 1) = mStep bs yrs m := by rw [mIt, hm]
    rw [← hm] at hmk
    obtain ⟨n1, n2, n3, n4, n5, n6⟩ := hmk
    have hkn : k ≤ 16 := by omega
    have q1 := dNx_bd bs m.d 6
    have g1 := fun (h2 : Hp) hh => vc_coin bs m.d 6 (.out i) h2 (by omega) hh
    unfold mStep at hnx
    obtain ⟨y1, hy1⟩ : ∃ y, y = dNx bs m.d 6 := ⟨_, rfl⟩
    rw [← hy1] at q1 g1 hnx
    have q2 := dNx_bd bs y1.2 yrs
    have g2 := fun (h2 : Hp) hh => vc_draw bs y1.2 yrs (.out i) h2 (by omega) hh
    obtain ⟨y2, hy2⟩ : ∃ y, y = dNx bs y1.2 yrs := ⟨_, rfl⟩
    rw [← hy2] at q2 g2 hnx
    have q3 := dNx_bd bs y2.2 (14 - 1 + 1)
    have g3 := fun (h2 : Hp) hh => vc_between bs y2.2 1 14 (.out i) h2 (by omega) (by omega) (by omega) hh
    obtain ⟨y3, hy3⟩ : ∃ y, y = dNx bs y2.2 (14 - 1 + 1) := ⟨_, rfl⟩
    rw [← hy3] at q3 g3 hnx
    clear hy1 hy2 hy3
    conv => whnf
    refine VIte.dec (fun h3 => ?_) (fun h3 => ?_)
    · conv => whnf
      repeat' (first | ((first | refine zs1 ?_ | refine zs2 ?_ | refine zs3 ?_ | refine zs4 ?_ | refine zs5 ?_); conv => whnf) | ((first | apply zi1 | apply zi2 | apply zi3 | apply zi4 | apply zi5) <;> intro _ <;> conv => whnf) | (refine VCall.intro (g1 _ (outW_get _ _ _ _)) ?_; conv => whnf) | (refine VCall.intro (g2 _ (outW_get _ _ _ _)) ?_; conv => whnf) | (refine VCall.intro (g3 _ (outW_get _ _ _ _)) ?_; conv => whnf))
      · rename_i hc
        have hnx : mIt bs yrs M0 (k + 1) = ⟨y3.2, m.year + y2.1 + (1 + y3.1), 1 - m.side, m.ps ++ [⟨1 - m.side, m.year, m.year + y2.1⟩]⟩ := by rw [hnx, hc]; rfl
        refine VMem.app1 (l := m.ps) (⟨1 - m.side, m.year, m.year + y2.1⟩ : Pap) encP_len rfl rfl rfl rfl rfl (by omega) ?_
        conv => whnf
        repeat' (first | ((first | refine zs1 ?_ | refine zs2 ?_ | refine zs3 ?_ | refine zs4 ?_ | refine zs5 ?_); conv => whnf) | ((first | apply zi1 | apply zi2 | apply zi3 | apply zi4 | apply zi5) <;> intro _ <;> conv => whnf))
        refine VDraw.go [(2, 4)] (by kernel_rfl) (by kernel_rfl) ?_
        conv => whnf
        repeat' (first | ((first | refine zs1 ?_ | refine zs2 ?_ | refine zs3 ?_ | refine zs4 ?_ | refine zs5 ?_); conv => whnf) | ((first | apply zi1 | apply zi2 | apply zi3 | apply zi4 | apply zi5) <;> intro _ <;> conv => whnf) | (refine VCall.intro (g3 _ (outW_get _ _ _ _)) ?_; conv => whnf))
        refine LEndO.intro (k + 1, _) ⟨by dsimp only; omega, hnx.symm⟩ (by dsimp only; omega) ?_ ?_
        · funext j; by_cases e : j = i <;> simp [outW, e, Hp.set]
        · conv => whnf
          rw [List.length_append]
          refine Retell.turn ⟨[0,1,5], 6, [], []⟩ (TurnOk.mk' _ _ [] [] (OutOk.outW (OutOk.lift _) rfl) rfl (by decide) zb trivial trivial rfl) zv zm
      · rename_i hc
        have hc2 : (y1.1 == 0) = false := by rw [beq_eq_false_iff_ne]; exact hc
        have hnx : mIt bs yrs M0 (k + 1) = ⟨y3.2, m.year + y2.1 + (1 + y3.1), m.side, m.ps ++ [⟨m.side, m.year, m.year + y2.1⟩]⟩ := by rw [hnx, hc2]; rfl
        repeat' (first | ((first | refine zs1 ?_ | refine zs2 ?_ | refine zs3 ?_ | refine zs4 ?_ | refine zs5 ?_); conv => whnf) | ((first | apply zi1 | apply zi2 | apply zi3 | apply zi4 | apply zi5) <;> intro _ <;> conv => whnf) | (refine VCall.intro (g2 _ (outW_get _ _ _ _)) ?_; conv => whnf))
        refine VMem.app1 (l := m.ps) (⟨m.side, m.year, m.year + y2.1⟩ : Pap) encP_len rfl rfl rfl rfl rfl (by omega) ?_
        conv => whnf
        repeat' (first | ((first | refine zs1 ?_ | refine zs2 ?_ | refine zs3 ?_ | refine zs4 ?_ | refine zs5 ?_); conv => whnf) | ((first | apply zi1 | apply zi2 | apply zi3 | apply zi4 | apply zi5) <;> intro _ <;> conv => whnf))
        refine VDraw.go [(2, 4)] (by kernel_rfl) (by kernel_rfl) ?_
        conv => whnf
        repeat' (first | ((first | refine zs1 ?_ | refine zs2 ?_ | refine zs3 ?_ | refine zs4 ?_ | refine zs5 ?_); conv => whnf) | ((first | apply zi1 | apply zi2 | apply zi3 | apply zi4 | apply zi5) <;> intro _ <;> conv => whnf) | (refine VCall.intro (g3 _ (outW_get _ _ _ _)) ?_; conv => whnf))
        refine LEndO.intro (k + 1, _) ⟨by dsimp only; omega, hnx.symm⟩ (by dsimp only; omega) ?_ ?_
        · funext j; by_cases e : j = i <;> simp [outW, e, Hp.set]
        · conv => whnf
          rw [List.length_append]
          refine Retell.turn ⟨[0,1,5], 6, [], []⟩ (TurnOk.mk' _ _ [] [] (OutOk.outW (OutOk.lift _) rfl) rfl (by decide) zb trivial trivial rfl) zv zm
    · have hkn2 : k = n := by dsimp only at h3; omega
      subst hkn2
      rw [← hm]
      conv => whnf
      repeat' (first | ((first | refine zs1 ?_ | refine zs2 ?_ | refine zs3 ?_ | refine zs4 ?_ | refine zs5 ?_); conv => whnf) | ((first | apply zi1 | apply zi2 | apply zi3 | apply zi4 | apply zi5) <;> intro _ <;> conv => whnf))
      refine VOut.turn ⟨[], 3, [(2, m.ps.flatMap encP)], []⟩ (loc' := []) (r1' := vF ⟨5 + x1.1, 4 + x2.1, m.ps⟩) (TurnOk.mk' [] 3 [(2, m.ps.flatMap encP)] [] (OutOk.outW (OutOk.lift _) rfl) rfl List.nodup_nil BTos.nil (FzAll.flat rfl FzAll.nil) trivial rfl) zv ?_
      exact VOut.setF (L := 0) rfl hd fun _ => rfl
end Go.Proofs.Ytaodhdpopklipaa

open Go.Vm
namespace Go.Proofs.Ytaodhdpopklipaa
set_option maxRecDepth 20000
set_option maxHeartbeats 4000000

theorem chkGo_of : ∀ {ps : List Pap} {last : Int}, ps.Pairwise (fun p q => p.hi < q.lo) → (∀ p ∈ ps, ¬ badPap p ∧ last < p.lo) → chkGo ps last = 0
  | [], _, _, _ => rfl
  | p :: ps, last, h, hb => by
    obtain ⟨h1, h2⟩ := List.pairwise_cons.1 h
    obtain ⟨b1, b2⟩ := hb p (by simp)
    rw [chkGo, if_neg b1, if_neg (by omega)]
    exact chkGo_of h2 fun q hq => ⟨(hb q (by simp [hq])).1, h1 q hq⟩
theorem mFile_ok (bs : List Int) (d : Nat × Int) {papers yrs : Int} (hp : 0 ≤ papers ∧ papers ≤ 16) (hy : 1 ≤ yrs ∧ yrs ≤ 4) :
    chk (mFile bs d papers yrs) = 0 ∧ ((mFile bs d papers yrs).ps.length : Int) ≤ papers ∧ (5 ≤ (mFile bs d papers yrs).Y ∧ (mFile bs d papers yrs).Y ≤ 60) ∧ (4 ≤ (mFile bs d papers yrs).G ∧ (mFile bs d papers yrs).G ≤ 20) ∧ (mEnd bs d papers yrs).d.1 ≤ d.1 + 60 := by
  have e1 := dNx_bd bs d (60 - 5 + 1)
  have e2 := dNx_bd bs (dNx bs d (60 - 5 + 1)).2 (20 - 4 + 1)
  have e3 := dNx_bd bs (mD2 bs d) 50
  have e4 := dNx_bd bs (dNx bs (mD2 bs d) 50).2 2
  have e5 := dNx_bd bs (dNx bs (dNx bs (mD2 bs d) 50).2 2).2 (papers + 1)
  have hk0 : MOk yrs 0 (dNx bs (dNx bs (dNx bs (mD2 bs d) 50).2 2).2 (papers + 1)).2.1 (m0 bs d papers) := by
    unfold m0
    exact ⟨by simp only; omega, by simp only; omega, by simp only; omega, rfl, by simp, by simp⟩
  have hok := mIt_ok (bs := bs) hk0 (by omega) (mN bs d papers)
  have hn : mN bs d papers ≤ 16 ∧ (mN bs d papers : Int) ≤ papers := by unfold mN; omega
  have hE : mIt bs yrs (m0 bs d papers) (mN bs d papers) = mEnd bs d papers yrs := rfl
  rw [hE] at hok
  obtain ⟨n1, n2, n3, n4, n5, n6⟩ := hok
  have hY : (mFile bs d papers yrs).Y = 5 + (dNx bs d (60 - 5 + 1)).1 := rfl
  have hG : (mFile bs d papers yrs).G = 4 + (dNx bs (dNx bs d (60 - 5 + 1)).2 (20 - 4 + 1)).1 := rfl
  have hps : (mFile bs d papers yrs).ps = (mEnd bs d papers yrs).ps := rfl
  refine ⟨?_, by rw [hps, n4]; exact hn.2, by rw [hY]; omega, by rw [hG]; omega, ?_⟩
  · unfold chk
    rw [if_neg (by rw [hY, hG]; omega), hps, if_neg (by rw [n4]; omega)]
    refine chkGo_of (n6 (-1) fun p hp => by have := (n5 p hp).2.1; omega) fun p hp => ?_
    have := n5 p hp
    refine ⟨?_, by omega⟩
    unfold badPap
    omega
  · have hd2 : (mD2 bs d).1 ≤ d.1 + 2 := by unfold mD2; omega
    omega
/-! ### A truth that is dealt -/

def tIt (bs : List Int) : List Pap → (Nat × Int) → List Int × (Nat × Int)
  | [], d => ([], d)
  | p :: r, d => ((p.lo + (dNx bs d (p.hi - p.lo + 1)).1) :: (tIt bs r (dNx bs d (p.hi - p.lo + 1)).2).1, (tIt bs r (dNx bs d (p.hi - p.lo + 1)).2).2)
theorem tIt_at {bs : List Int} {ps : List Pap} {k : Nat} {p : Pap} {d : Nat × Int} (h : ps[k]? = some p) : tIt bs (ps.drop k) d = ((p.lo + (dNx bs d (p.hi - p.lo + 1)).1) :: (tIt bs (ps.drop (k + 1)) (dNx bs d (p.hi - p.lo + 1)).2).1, (tIt bs (ps.drop (k + 1)) (dNx bs d (p.hi - p.lo + 1)).2).2) := by
  obtain ⟨hlt, rfl⟩ := List.getElem?_eq_some_iff.1 h
  rw [List.drop_eq_getElem_cons hlt, tIt]
theorem tIt_ok (bs : List Int) : ∀ (ps : List Pap) (d : Nat × Int), (∀ p ∈ ps, p.lo ≤ p.hi) → (tIt bs ps d).1.length = ps.length ∧ holdsS ps (tIt bs ps d).1 = true ∧ (tIt bs ps d).2.1 ≤ d.1 + ps.length
  | [], d, _ => ⟨rfl, by simp [holdsS], by simp [tIt]⟩
  | p :: r, d, h => by
    have e := dNx_bd bs d (p.hi - p.lo + 1)
    obtain ⟨i1, i2, i3⟩ := tIt_ok bs r (dNx bs d (p.hi - p.lo + 1)).2 (fun q hq => h q (by simp [hq]))
    have hp := h p (by simp)
    rw [tIt]
    refine ⟨by simp [i1], ?_, by simp only [List.length_cons]; omega⟩
    rw [holdsS, decide_eq_true (by omega), i2]; rfl
theorem vc_True (bs : List Int) (d : Nat × Int) (f : Fil) (i : Vm.Id) (h : Hp) (hN : d.1 ≤ 1000000) (h0 : chk f = 0) (hd : h.get i = some (deckB bs d)) :
    VC Try.prog 8 [.ptr i 0, vF f] h (ints (tIt bs f.ps d).1) (h.set i (deckB bs (tIt bs f.ps d).2)) := by
  have hn16 := (chk_zero h0).2.2.1
  have hpok := chk_pok h0
  obtain ⟨R, hR⟩ : ∃ R, R = tIt bs f.ps d := ⟨_, rfl⟩
  rw [← hR]
  refine VC.body Try.func8 rfl Try.ntmps8 Try.call8 (h.grows_set _ _) rfl ?_
  conv => whnf
  repeat' (first | ((first | refine zs1 ?_ | refine zs2 ?_ | refine zs3 ?_ | refine zs4 ?_ | refine zs5 ?_); conv => whnf) | ((first | apply zi1 | apply zi2 | apply zi3 | apply zi4 | apply zi5) <;> intro _ <;> conv => whnf))
  refine VCode.lpo (fun y : Nat × List Int × (Nat × Int) => [(0, .ptr (.out i) 0), (5, .gl (.loc 0) 1 y.2.1.length), (9, paps f.ps), (10, I f.ps.length), (11, I y.1)]) (fun y => outW h.lift i (deckB bs y.2.2))
    (fun y => [.flat true (y.2.1.flatMap encI)]) (fun y => y.1 ≤ f.ps.length ∧ y.2.1.length = y.1 ∧ y.2.2.1 ≤ 1000000 + y.1 ∧ R = (y.2.1 ++ (tIt bs (f.ps.drop y.1) y.2.2).1, (tIt bs (f.ps.drop y.1) y.2.2).2)) (fun y => f.ps.length - y.1) (0, [], d) ⟨Nat.zero_le _, rfl, by dsimp only; omega, hR⟩ (outW_id (get_out hd [])) ?_ ?_
  · conv => whnf
    refine Retell.turn ⟨[1], 1, [], []⟩ (TurnOk.mk' _ _ [] [] (OutOk.outW (OutOk.lift _) rfl) rfl (by decide) zb trivial trivial rfl) zv zm
  · rintro ⟨k, l, e⟩ ⟨hk, hl, he, hRk⟩
    dsimp only at hk hl he hRk
    conv => whnf
    refine VIte.dec (fun h3 => ?_) (fun h3 => ?_)
    · have hp : f.ps[k]? = some f.ps[k] := List.getElem?_eq_getElem (by omega)
      have hpk := hpok f.ps[k] (List.getElem_mem (by omega))
      rw [tIt_at hp] at hRk
      generalize f.ps[k] = p at hp hpk hRk
      obtain ⟨p1, p2, p3, p4, p5⟩ := hpk
      have q1 := dNx_bd bs e (p.hi - p.lo + 1)
      have g1 := fun (h2 : Hp) hh => vc_between bs e p.lo p.hi (.out i) h2 (by omega) (by omega) (by omega) hh
      generalize dNx bs e (p.hi - p.lo + 1) = y1 at q1 g1 hRk
      conv => whnf
      repeat' (first | ((first | refine zs1 ?_ | refine zs2 ?_ | refine zs3 ?_ | refine zs4 ?_ | refine zs5 ?_); conv => whnf) | ((first | apply zi1 | apply zi2 | apply zi3 | apply zi4 | apply zi5) <;> intro _ <;> conv => whnf) | (refine VAny.ix encP_len k rfl rfl hp ?_; conv => whnf) | (refine VCall.intro (g1 _ (outW_get _ _ _ _)) ?_; conv => whnf))
      refine VMem.app1 (p.lo + y1.1) encI_len rfl rfl rfl rfl rfl (by dsimp only; omega) ?_
      conv => whnf
      repeat' (first | ((first | refine zs1 ?_ | refine zs2 ?_ | refine zs3 ?_ | refine zs4 ?_ | refine zs5 ?_); conv => whnf) | ((first | apply zi1 | apply zi2 | apply zi3 | apply zi4 | apply zi5) <;> intro _ <;> conv => whnf))
      refine LEndO.intro (k + 1, l ++ [p.lo + y1.1], y1.2) ⟨by dsimp only; omega, by simp [hl], by dsimp only; omega, by dsimp only; rw [hRk]; simp⟩ (by dsimp only; omega) ?_ ?_
      · funext j; by_cases e : j = i <;> simp [outW, e, Hp.set]
      · conv => whnf
        rw [List.length_append]
        refine Retell.turn ⟨[3], 4, [], []⟩ (TurnOk.mk' _ _ [] [] (OutOk.outW (OutOk.lift _) rfl) rfl (by decide) zb trivial trivial rfl) zv zm
    · have hkn2 : k = f.ps.length := by dsimp only at h3; omega
      subst hkn2
      rw [List.drop_of_length_le (Nat.le_refl _), tIt, List.append_nil] at hRk
      subst hRk
      conv => whnf
      repeat' (first | ((first | refine zs1 ?_ | refine zs2 ?_ | refine zs3 ?_ | refine zs4 ?_ | refine zs5 ?_); conv => whnf) | ((first | apply zi1 | apply zi2 | apply zi3 | apply zi4 | apply zi5) <;> intro _ <;> conv => whnf))
      refine VOut.turn ⟨[], 1, [(0, l.flatMap encI)], []⟩ (loc' := []) (r1' := ints l) (TurnOk.mk' [] 1 [(0, l.flatMap encI)] [] (OutOk.outW (OutOk.lift _) rfl) rfl List.nodup_nil BTos.nil (FzAll.flat rfl FzAll.nil) trivial rfl) zv ?_
      exact VOut.setF (L := 0) rfl hd fun _ => rfl
theorem tIt_tru (bs : List Int) (d : Nat × Int) {f : Fil} (h0 : chk f = 0) : (tIt bs f.ps d).1 ∈ tru f.ps ∧ (tIt bs f.ps d).2.1 ≤ d.1 + 16 := by
  have hn16 := (chk_zero h0).2.2.1
  obtain ⟨h1, h2, h3⟩ := tIt_ok bs f.ps d fun p hp => (chk_pok h0 p hp).le
  exact ⟨mem_tru.2 ⟨h1, h2⟩, by omega⟩
end Go.Proofs.Ytaodhdpopklipaa

open Go.Vm
namespace Go.Proofs.Ytaodhdpopklipaa
set_option maxRecDepth 20000
set_option maxHeartbeats 4000000

theorem own_cases {f : Fil} {t : List Int} (h0 : chk f = 0) (ht : t ∈ tru f.ps) : (arL f t = [] ∧ own f t = (2, 0)) ∨
    ∃ (j : Nat) (p : Pap) (y : Int), 0 < (arL f t).length ∧ (arL f t)[(arL f t).length - 1]? = some (j : Int) ∧ f.ps[j]? = some p ∧ t[j]? = some y ∧ own f t = (p.side, y) ∧ (p.side = 0 ∨ p.side = 1) := by
  have hl := (mem_tru.1 ht).1
  rcases ownS_sel f t t.length with h | ⟨l, j, h1, h2, h3, h4⟩
  · exact .inl h
  · right
    have hp : f.ps[j]? = some f.ps[j] := List.getElem?_eq_getElem (by omega)
    have hy : t[j]? = some t[j] := List.getElem?_eq_getElem (by omega)
    have e : arL f t = l ++ [(j : Int)] := h1
    refine ⟨j, f.ps[j], t[j], by rw [e]; simp, by rw [e]; simp, hp, hy, ?_, (chk_pok h0 _ (List.getElem_mem _)).side⟩
    rw [← sdAt_eq hp, ← tAt_eq hy]
    exact h4
theorem isOwn_of {f : Fil} {t : List Int} (ht : t ∈ tru f.ps) : isOwn f (own f t).1 = true := by
  unfold isOwn
  rw [List.any_eq_true]
  exact ⟨t, ht, decide_eq_true rfl⟩
theorem mem_osG {f : Fil} (h0 : chk f = 0) {x : Int} (hx : 0 ≤ x ∧ x ≤ 2) : x ∈ osG f ↔ isG f x = true := by
  rw [osG_eq h0, isG_eq h0]; exact mem_osL hx
theorem own_rng {f : Fil} {t : List Int} (h0 : chk f = 0) (ht : t ∈ tru f.ps) : 0 ≤ (own f t).1 ∧ (own f t).1 ≤ 2 := by
  rcases own_cases h0 ht with ⟨_, h⟩ | ⟨j, p, y, _, _, _, _, h, hs⟩ <;> rw [h] <;> dsimp only <;> omega
theorem own_osG {f : Fil} {t : List Int} (h0 : chk f = 0) (ht : t ∈ tru f.ps) : (own f t).1 ∈ osG f :=
  (mem_osG h0 (own_rng h0 ht)).2 (by rw [isG_eq h0]; exact isOwn_of ht)
end Go.Proofs.Ytaodhdpopklipaa


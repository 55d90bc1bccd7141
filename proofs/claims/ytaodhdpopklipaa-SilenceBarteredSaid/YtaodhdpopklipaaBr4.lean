/- Part 4 of the proof that a field that is somebody's by silence is exchanged as theirs, as the law SilenceBartered says. No condition. -/
import Derived.Test.YtaodhdpopklipaaBr3
set_option linter.unusedVariables false
set_option linter.unusedSimpArgs false
open Go.Vm
namespace Go.Proofs.Ytaodhdpopklipaa.Bt
set_option maxRecDepth 20000
set_option maxHeartbeats 1000000

structure Str where
  ow : Int
  no : Int
  so : Int
  we : Int
  deriving DecidableEq
def encT (s : Str) : List D := [DI s.ow, DI s.no, DI s.so, DI s.we]
theorem encT_len (s : Str) : (encT s).length = 4 := rfl
def strs (l : List Str) : V := .fs 4 l.length (l.flatMap encT)
structure Lnd where
  ss : List Str
  vs : List Int
def vL (l : Lnd) : V := .agg [strs l.ss, ints l.vs]
def encN (l : Lnd) : List D := [.sl 4 l.ss.length (l.ss.flatMap encT), dints l.vs]
structure Exc where
  w : Int
  ps : List Int
  deriving DecidableEq
def vX (x : Exc) : V := .agg [I x.w, ints x.ps]
def encX (x : Exc) : List D := [DI x.w, dints x.ps]
theorem vc_from (n a b : Int) (h : Hp) : VC Try.prog 51 [I n, I a, I b] h (B (decide (a ≤ n ∧ n ≤ b))) h := by
  refine VC.body Try.func51 rfl Try.ntmps51 Try.call51 (h.grows_refl) rfl ?_; conv => whnf
  repeat' (first | ((first | refine zs1 ?_ | refine zs2 ?_ | refine zs3 ?_ | refine zs4 ?_ | refine zs5 ?_ | refine zs6 [] ?_); conv => whnf) | ((first | apply zi1 | apply zi2 | apply zi3 | apply zi4 | apply zi5) <;> intro _ <;> conv => whnf))
  all_goals (refine VOut.same ?_; simp [V.ren]; try omega)
theorem vc_side (n : Int) (h : Hp) : VC Try.prog 67 [I n] h (B (decide (n = 0 ∨ n = 1))) h := by
  refine VC.body Try.func67 rfl Try.ntmps67 Try.call67 (h.grows_refl) rfl ?_; conv => whnf
  repeat' (first | ((first | refine zs1 ?_ | refine zs2 ?_ | refine zs3 ?_ | refine zs4 ?_ | refine zs5 ?_ | refine zs6 [] ?_); conv => whnf) | ((first | apply zi1 | apply zi2 | apply zi3 | apply zi4 | apply zi5) <;> intro _ <;> conv => whnf))
  all_goals (refine VOut.same ?_; simp only [V.ren]; congr 2; first | (rw [Bool.eq_iff_iff]; simp; omega) | (rw [Bool.eq_iff_iff]; simp; done))
theorem vc_asked1 (n : Int) (x : Exc) (h : Hp) : VC Try.prog 53 [I n, .fp (encX x)] h (B (decide (0 ≤ n ∧ n ≤ x.w))) h := by
  refine VC.body Try.func53 rfl Try.ntmps53 Try.call53 (h.grows_refl) rfl ?_; conv => whnf
  repeat' (first | ((first | refine zs1 ?_ | refine zs2 ?_ | refine zs3 ?_ | refine zs4 ?_ | refine zs5 ?_ | refine zs6 [] ?_); conv => whnf) | ((first | apply zi1 | apply zi2 | apply zi3 | apply zi4 | apply zi5) <;> intro _ <;> conv => whnf) | (refine VCall.intro (vc_from _ _ _ _) ?_; conv => whnf))
  all_goals (refine VOut.same ?_; simp [V.ren]; try omega)
theorem vc_whole (l : List Int) (q : Int → Bool) (g : FuncId) (caps : List D) (hl : l.length ≤ 4000000) (hso : ∀ (x : Int) (h : Hp), VC Try.prog g ([I x] ++ D.vs caps) h (B (q x)) h) (h : Hp) :
    VC Try.prog 52 [ints l, .func (.func g) [] (D.vs caps)] h (B (l.all q)) h := by
  refine VC.body Try.func52 rfl Try.ntmps52 Try.call52 (h.grows_refl) rfl ?_; conv => whnf
  rw [rens_dvs]
  refine VCode.lp (fun k : Nat => [(1, .func (.func g) [] (D.vs caps)), (4, B false), (7, ints l), (8, I l.length), (9, I k)]) (fun _ => []) (fun k => k ≤ l.length ∧ l.all q = (l.drop k).all q) (fun k => l.length - k) 0 (by simp) ?_ ?_
  · conv => whnf
    refine Retell.turn ⟨[], 0, [], []⟩ (TurnOk.mk' _ _ [] [] (OutOk.lift _) rfl (by decide) zb trivial trivial rfl) zv zm
  · rintro k ⟨h1, h2⟩
    conv => whnf
    refine VIte.dec (fun h3 => ?_) (fun h3 => ?_)
    · have hk : l[k]? = some l[k] := List.getElem?_eq_getElem (by omega)
      rw [List.drop_eq_getElem_cons (by omega), List.all_cons] at h2
      generalize l[k] = x at hk h2
      conv => whnf
      refine VAny.ix encI_len k rfl rfl hk ?_
      conv => whnf
      repeat (first | ((first | refine zs1 ?_ | refine zs2 ?_ | refine zs3 ?_ | refine zs4 ?_ | refine zs5 ?_ | refine zs6 [] ?_); conv => whnf))
      refine VCall.intro (hso x _) ?_
      conv => whnf
      cases hp : q x
      · conv => whnf
        refine VOut.same ?_
        simp [V.ren, h2, hp]
      · conv => whnf
        repeat (first | ((first | refine zs1 ?_ | refine zs2 ?_ | refine zs3 ?_ | refine zs4 ?_ | refine zs5 ?_ | refine zs6 [] ?_); conv => whnf))
        refine LEnd.intro (k + 1) ⟨by omega, by simpa [hp] using h2⟩ (by omega) ?_
        conv => whnf
        refine Retell.turn ⟨[], 0, [], []⟩ (TurnOk.mk' _ _ [] [] (OutOk.lift _) rfl (by decide) zb trivial trivial rfl) zv zm
    · conv => whnf
      refine VOut.same ?_
      rw [List.drop_of_length_le (by omega), List.all_nil] at h2
      simp [V.ren, h2]
def vAt (vs : List Int) (i : Int) : Int := vs.getD i.toNat 0
def badS (vs : List Int) (s : Str) : Int :=
  if ¬ (s.ow = 0 ∨ s.ow = 1) ∨ ¬ (1 ≤ s.no ∧ s.no ≤ 1000) ∨ ¬ (1 ≤ s.so ∧ s.so ≤ 1000) then 4
  else if ¬ (-1 ≤ s.we ∧ s.we ≤ (vs.length : Int) - 1) then 2 else if s.we ≠ -1 ∧ vAt vs s.we ≠ s.ow then 8 else 0
def chkGo (vs : List Int) : List Str → Int
  | [] => 0
  | s :: r => if badS vs s ≠ 0 then badS vs s else chkGo vs r
def isSide (n : Int) : Bool := decide (n = 0 ∨ n = 1)
def chk (l : Lnd) : Int :=
  if ¬ (1 ≤ l.ss.length ∧ l.ss.length ≤ 16) ∨ 8 < l.vs.length then 3 else bif l.vs.all isSide then chkGo l.vs l.ss else 4
theorem chkGo_at {vs : List Int} {ss : List Str} {k : Nat} {s : Str} (h : ss[k]? = some s) : chkGo vs (ss.drop k) = if badS vs s ≠ 0 then badS vs s else chkGo vs (ss.drop (k + 1)) := by
  obtain ⟨hlt, rfl⟩ := List.getElem?_eq_some_iff.1 h
  rw [List.drop_eq_getElem_cons hlt, chkGo]
theorem vc_check (l : Lnd) (h : Hp) (hn : l.ss.length ≤ 4000000) (hv : l.vs.length ≤ 4000000) : VC Try.prog 40 [vL l] h (I (chk l)) h := by
  obtain ⟨E, hE⟩ : ∃ E, E = chk l := ⟨_, rfl⟩
  rw [← hE]
  unfold chk at hE
  have cw := fun h => vc_whole l.vs isSide 67 [] hv (fun x h => vc_side x h) h
  refine VC.body Try.func40 rfl Try.ntmps40 Try.call40 (h.grows_refl) rfl ?_; conv => whnf
  repeat' (first | ((first | refine zs1 ?_ | refine zs2 ?_ | refine zs3 ?_ | refine zs4 ?_ | refine zs5 ?_ | refine zs6 [] ?_); conv => whnf) | ((first | apply zi1 | apply zi2 | apply zi3 | apply zi4 | apply zi5) <;> intro _ <;> conv => whnf) | (refine VCall.intro (vc_from _ _ _ _) ?_; conv => whnf) | (refine VCall.intro (cw _) ?_; conv => whnf))
  · rw [hE, if_pos (by omega)]; exact VOut.same rfl
  · rw [hE, if_pos (by omega)]; exact VOut.same rfl
  · rename_i hb
    rw [hE, if_neg (by omega), show l.vs.all isSide = false by simpa using hb]; exact VOut.same rfl
  · rename_i hb
    rw [if_neg (by omega), show l.vs.all isSide = true by simpa using hb, cond_true] at hE
    refine VCode.lp (fun k : Nat => [(1, .ptr (.loc 0) 0), (23, strs l.ss), (24, I l.ss.length), (25, I k)]) (fun _ => [.flat true (encN l)]) (fun k => k ≤ l.ss.length ∧ E = chkGo l.vs (l.ss.drop k)) (fun k => l.ss.length - k) 0 ⟨Nat.zero_le _, hE⟩ ?_ ?_
    · conv => whnf
      refine Retell.turn ⟨[0], 1, [], []⟩ (TurnOk.mk' _ _ [] [] (OutOk.lift _) rfl (by decide) zb trivial trivial rfl) zv zm
    · rintro k ⟨hk, hEk⟩
      conv => whnf
      refine VIte.dec (fun h3 => ?_) (fun h3 => ?_)
      · have hs : l.ss[k]? = some l.ss[k] := List.getElem?_eq_getElem (by omega)
        rw [chkGo_at hs] at hEk
        generalize l.ss[k] = s at hs hEk
        unfold badS at hEk
        have hv1 : ∀ (_ : 0 ≤ s.we ∧ s.we ≤ (l.vs.length : Int) - 1), l.vs[s.we.toNat]? = some (vAt l.vs s.we) := fun _ => by
          unfold vAt
          rw [List.getD_eq_getElem?_getD, List.getElem?_eq_getElem (by omega)]; rfl
        conv => whnf
        repeat' (first | ((first | refine zs1 ?_ | refine zs2 ?_ | refine zs3 ?_ | refine zs4 ?_ | refine zs5 ?_); conv => whnf) | ((first | apply zi1 | apply zi2 | apply zi3 | apply zi4 | apply zi5) <;> intro _ <;> conv => whnf) | (refine VAny.ix encT_len k rfl rfl hs ?_; conv => whnf) | (refine VCall.intro (vc_side _ _) ?_; conv => whnf) | (refine VCall.intro (vc_from _ _ _ _) ?_; conv => whnf) | (refine VDraw.go [] (by kernel_rfl) (by kernel_rfl) ?_; conv => whnf) | (refine VAny.ix encI_len s.we.toNat (by first | omega | (simp at *; omega)) rfl (hv1 (by first | omega | (simp at *; omega))) ?_; conv => whnf))
        all_goals first
          | (rw [show E = 4 by omega]; exact VOut.same rfl)
          | (rw [show E = 2 by omega]; exact VOut.same rfl)
          | (rw [show E = 8 by omega]; exact VOut.same rfl)
          | (refine LEnd.intro (k + 1) ⟨by omega, by omega⟩ (by omega) ?_
             conv => whnf
             refine Retell.turn ⟨[0], 2, [], []⟩ (TurnOk.mk' _ _ [] [] (OutOk.lift _) rfl (by decide) zb trivial trivial rfl) zv zm)
      · rw [List.drop_of_length_le (by omega), chkGo] at hEk
        rw [hEk]
        conv => whnf
        repeat' (first | ((first | refine zs1 ?_ | refine zs2 ?_ | refine zs3 ?_ | refine zs4 ?_ | refine zs5 ?_ | refine zs6 [] ?_); conv => whnf) | ((first | apply zi1 | apply zi2 | apply zi3 | apply zi4 | apply zi5) <;> intro _ <;> conv => whnf))
        exact VOut.same rfl
end Go.Proofs.Ytaodhdpopklipaa.Bt

open Go.Vm
namespace Go.Proofs.Ytaodhdpopklipaa.Bt
set_option maxRecDepth 20000
set_option maxHeartbeats 1000000
structure Sok (vs : List Int) (s : Str) : Prop where
  ow : s.ow = 0 ∨ s.ow = 1
  no : 1 ≤ s.no ∧ s.no ≤ 1000
  so : 1 ≤ s.so ∧ s.so ≤ 1000
  we : s.we = -1 ∨ (0 ≤ s.we ∧ s.we < vs.length ∧ vAt vs s.we = s.ow)
structure Ok (l : Lnd) : Prop where
  n : 1 ≤ l.ss.length ∧ l.ss.length ≤ 16
  v : l.vs.length ≤ 8
  side : ∀ x ∈ l.vs, x = 0 ∨ x = 1
  ss : ∀ s ∈ l.ss, Sok l.vs s
theorem chkGo_ok {vs : List Int} : ∀ {ss : List Str}, chkGo vs ss = 0 ↔ ∀ s ∈ ss, Sok vs s
  | [] => by simp [chkGo]
  | s :: r => by
    rw [chkGo, List.forall_mem_cons, ← chkGo_ok]
    have : badS vs s = 0 ↔ Sok vs s := by
      constructor
      · intro h
        unfold badS at h
        exact ⟨by omega, by omega, by omega, by omega⟩
      · rintro ⟨h1, h2, h3, h4⟩
        unfold badS
        omega
    rw [← this]
    omega
theorem chk_ok {l : Lnd} : chk l = 0 ↔ Ok l := by
  unfold chk
  constructor
  · intro h
    split at h
    · cases h
    · cases hv : l.vs.all isSide
      · rw [hv] at h; cases h
      · rw [hv, cond_true] at h
        refine ⟨by omega, by omega, fun x hx => ?_, chkGo_ok.1 h⟩
        have := List.all_eq_true.1 hv x hx
        simpa [isSide] using this
  · rintro ⟨h1, h2, h3, h4⟩
    rw [if_neg (by omega), show l.vs.all isSide = true from List.all_eq_true.2 fun x hx => by simpa [isSide] using h3 x hx, cond_true]
    exact chkGo_ok.2 h4
theorem vc_opened (l : Lnd) (h : Hp) (hn : l.ss.length ≤ 4000000) (hv : l.vs.length ≤ 4000000) : VC Try.prog 21 [vL l] h (.tuple [if chk l = 0 then .fp (encN l) else .nilptr, I (chk l)]) h := by
  refine VC.body Try.func21 rfl Try.ntmps21 Try.call21 (h.grows_refl) rfl ?_; conv => whnf
  repeat' (first | ((first | refine zs1 ?_ | refine zs2 ?_ | refine zs3 ?_ | refine zs4 ?_ | refine zs5 ?_ | refine zs6 [] ?_); conv => whnf) | ((first | apply zi1 | apply zi2 | apply zi3 | apply zi4 | apply zi5) <;> intro _ <;> conv => whnf) | (refine VCall.intro (vc_check l _ hn hv) ?_; conv => whnf))
  · rename_i h1
    rw [if_neg h1]; exact VOut.same rfl
  · rename_i h1
    have h1 : chk l = 0 := by omega
    rw [if_pos h1, h1]
    refine VOut.data 2 [(1, encN l)] [] rfl zf (by exact FmAll.nil) zv
theorem vc_opened_ok (l : Lnd) (h : Hp) (o : Ok l) : VC Try.prog 21 [vL l] h (.tuple [.fp (encN l), I 0]) h := by
  have := vc_opened l h (by have := o.n; omega) (by have := o.v; omega)
  rw [chk_ok.2 o, if_pos rfl] at this; exact this
theorem vc_opened_no (l : Lnd) (h : Hp) (hn : l.ss.length ≤ 4000000) (hv : l.vs.length ≤ 4000000) (h0 : chk l ≠ 0) : VC Try.prog 21 [vL l] h (.tuple [.nilptr, I (chk l)]) h := by
  have := vc_opened l h hn hv
  rw [if_neg h0] at this; exact this
def isFree (s : Str) : Bool := decide (s.we = -1)
def bdAt (l : Lnd) (i : Nat) : Bool := match l.ss[i]? with
  | some s => !isFree s
  | none => false
theorem bdAt_eq {l : Lnd} {i : Nat} {s : Str} (h : l.ss[i]? = some s) : bdAt l i = !isFree s := by simp [bdAt, h]
theorem vc_bound (l : Lnd) (i : Nat) (h : Hp) (hi : i < l.ss.length) : VC Try.prog 50 [.fp (encN l), I i] h (B (bdAt l i)) h := by
  have hs : l.ss[i]? = some l.ss[i] := List.getElem?_eq_getElem hi
  rw [bdAt_eq hs]
  generalize l.ss[i] = s at hs
  refine VC.body Try.func50 rfl Try.ntmps50 Try.call50 (h.grows_refl) rfl ?_; conv => whnf
  repeat' (first | ((first | refine zs1 ?_ | refine zs2 ?_ | refine zs3 ?_ | refine zs4 ?_ | refine zs5 ?_ | refine zs6 [] ?_); conv => whnf) | ((first | apply zi1 | apply zi2 | apply zi3 | apply zi4 | apply zi5) <;> intro _ <;> conv => whnf) | (refine VAny.ix encT_len i rfl rfl hs ?_; conv => whnf))
  refine VOut.same ?_
  simp only [V.ren, isFree]; congr 2
def selS (q : Nat → Bool) : Nat → List Int
  | 0 => []
  | k + 1 => if q k then selS q k ++ [(k : Int)] else selS q k
theorem selS_len (q : Nat → Bool) : ∀ k, (selS q k).length ≤ k
  | 0 => Nat.le_refl _
  | k + 1 => by
    have := selS_len q k
    rw [selS]; split <;> simp <;> omega
end Go.Proofs.Ytaodhdpopklipaa.Bt

open Go.Vm
namespace Go.Proofs.Ytaodhdpopklipaa.Bt
set_option maxRecDepth 20000
set_option maxHeartbeats 1000000

def nowP (l : Lnd) : List Int := l.ss.map fun s => 1 - s.ow
def nowX (l : Lnd) : Exc := ⟨1, nowP l⟩
theorem nowP_len (l : Lnd) : (nowP l).length = l.ss.length := by simp [nowP]
def now0 (l : Lnd) (k : Nat) : List Int := (nowP l).take k ++ List.replicate (l.ss.length - k) 0
theorem now0_at {l : Lnd} {k : Nat} (hk : k < l.ss.length) : (now0 l k)[k]? = some 0 := by
  unfold now0
  have : ((nowP l).take k).length = k := by simp [nowP]; omega
  rw [List.getElem?_append_right (by omega), this, Nat.sub_self, List.getElem?_replicate, if_pos (by omega)]
theorem now0_set {l : Lnd} {k : Nat} {s : Str} (hs : l.ss[k]? = some s) : (now0 l k).set k (1 - s.ow) = now0 l (k + 1) := by
  obtain ⟨hlt, e⟩ := List.getElem?_eq_some_iff.1 hs
  unfold now0
  have h1 : ((nowP l).take k).length = k := by simp [nowP]; omega
  rw [List.set_append_right _ _ (by omega), h1, Nat.sub_self, show l.ss.length - k = (l.ss.length - (k + 1)) + 1 by omega, List.replicate_succ, List.set_cons_zero, List.take_add_one]
  have : (nowP l)[k]? = some (1 - s.ow) := by simp [nowP, hs]
  rw [this]; simp
theorem vc_now (l : Lnd) (h : Hp) (o : Ok l) : VC Try.prog 48 [.fp (encN l)] h (vX (nowX l)) h := by
  have hn := o.n
  refine VC.body Try.func48 rfl Try.ntmps48 Try.call48 (h.grows_refl) rfl ?_; conv => whnf
  repeat' (first | ((first | refine zs1 ?_ | refine zs2 ?_ | refine zs3 ?_ | refine zs4 ?_ | refine zs5 ?_ | refine zs6 [] ?_); conv => whnf) | ((first | apply zi1 | apply zi2 | apply zi3 | apply zi4 | apply zi5) <;> intro _ <;> conv => whnf) | (refine VMem.make (n := l.ss.length) (0 : Int) encI_len rfl rfl rfl rfl rfl rfl (by omega) ?_; conv => whnf))
  refine VCode.lp (fun k : Nat => [(2, .ptr (.loc 0) 0), (3, .ptr (.loc 2) 0), (18, strs l.ss), (19, I l.ss.length), (20, I k)]) (fun k => [.flat true [DI 0, .nilslice], .flat true ((now0 l k).flatMap encI), .cells true [I 1, .gl (.loc 1) 1 l.ss.length]]) (fun k => k ≤ l.ss.length) (fun k => l.ss.length - k) 0 (Nat.zero_le _) ?_ ?_
  · conv => whnf
    refine Retell.turn ⟨[0,1,2], 3, [], []⟩ (TurnOk.mk' _ _ [] [] (OutOk.lift _) rfl (by decide) zb trivial trivial rfl) zv zm
  · intro k hk
    conv => whnf
    refine VIte.dec (fun h3 => ?_) (fun h3 => ?_)
    · have hs : l.ss[k]? = some l.ss[k] := List.getElem?_eq_getElem (by omega)
      have hok := o.ss _ (List.getElem_mem (by omega : k < l.ss.length))
      generalize l.ss[k] = s at hs hok
      have h0 := now0_set hs
      have h1 := now0_at (l := l) (k := k) (by omega)
      have how := hok.ow
      conv => whnf
      repeat' (first | ((first | refine zs1 ?_ | refine zs2 ?_ | refine zs3 ?_ | refine zs4 ?_ | refine zs5 ?_); conv => whnf) | ((first | apply zi1 | apply zi2 | apply zi3 | apply zi4 | apply zi5) <;> intro _ <;> conv => whnf) | (refine VAny.ix encT_len k rfl rfl hs ?_; conv => whnf))
      · rename_i he
        rw [he] at h0
        refine VMem.setRec encI_len k 0 (1 : Int) rfl rfl rfl h1 (by decide) rfl (by simp) ?_
        conv => whnf
        repeat' (first | ((first | refine zs1 ?_ | refine zs2 ?_ | refine zs3 ?_ | refine zs4 ?_ | refine zs5 ?_); conv => whnf) | ((first | apply zi1 | apply zi2 | apply zi3 | apply zi4 | apply zi5) <;> intro _ <;> conv => whnf))
        refine LEnd.intro (k + 1) (by omega) (by omega) ?_
        conv => whnf
        rw [show (now0 l k).set k 1 = now0 l (k + 1) from h0]
        refine Retell.turn ⟨[0,1,2], 4, [], []⟩ (TurnOk.mk' _ _ [] [] (OutOk.lift _) rfl (by decide) zb trivial trivial rfl) zv zm
      · rename_i he
        have he : s.ow = 1 := by omega
        rw [he] at h0
        have h2 : now0 l (k + 1) = now0 l k := by
          rw [← h0]
          obtain ⟨h5, h6⟩ := List.getElem?_eq_some_iff.1 h1
          conv => rhs; rw [← List.set_getElem_self h5]
          rw [h6]; rfl
        refine LEnd.intro (k + 1) (by omega) (by omega) ?_
        conv => whnf
        rw [h2]
        refine Retell.turn ⟨[0,1,2], 4, [], []⟩ (TurnOk.mk' _ _ [] [] (OutOk.lift _) rfl (by decide) zb trivial trivial rfl) zv zm
    · have he : now0 l k = nowP l := by
        unfold now0
        rw [show l.ss.length - k = 0 by omega, List.take_of_length_le (by rw [nowP_len]; omega)]; simp
      rw [he]
      conv => whnf
      repeat' (first | ((first | refine zs1 ?_ | refine zs2 ?_ | refine zs3 ?_ | refine zs4 ?_ | refine zs5 ?_); conv => whnf) | ((first | apply zi1 | apply zi2 | apply zi3 | apply zi4 | apply zi5) <;> intro _ <;> conv => whnf))
      rw [show l.ss.length = (nowP l).length from (nowP_len l).symm]
      refine VOut.data 3 [(1, (nowP l).flatMap encI)] [] rfl zf (by exact FmAll.nil) zv
def askE (l : Lnd) (x : Exc) : Int :=
  if chk l ≠ 0 then chk l else if ¬ (1 ≤ x.w ∧ x.w ≤ 2000) then 4 else if x.ps.length ≠ l.ss.length then 3 else bif x.ps.all fun p => decide (0 ≤ p ∧ p ≤ x.w) then 0 else 4
structure XOk (l : Lnd) (x : Exc) : Prop where
  w : 1 ≤ x.w ∧ x.w ≤ 2000
  len : x.ps.length = l.ss.length
  ps : ∀ p ∈ x.ps, 0 ≤ p ∧ p ≤ x.w
theorem ask_ok {l : Lnd} {x : Exc} : askE l x = 0 ↔ Ok l ∧ XOk l x := by
  unfold askE
  constructor
  · intro h
    by_cases h1 : chk l = 0
    · rw [if_neg (by omega)] at h
      refine ⟨chk_ok.1 h1, ?_⟩
      cases hp : x.ps.all fun p => decide (0 ≤ p ∧ p ≤ x.w)
      · rw [hp, cond_false] at h; omega
      · rw [hp, cond_true] at h
        exact ⟨by omega, by omega, fun p hm => by simpa using List.all_eq_true.1 hp p hm⟩
    · rw [if_pos h1] at h; exact absurd h h1
  · rintro ⟨h1, h2, h3, h4⟩
    have h5 : (x.ps.all fun p => decide (0 ≤ p ∧ p ≤ x.w)) = true := List.all_eq_true.2 fun p hm => by simpa using h4 p hm
    have := chk_ok.2 h1
    rw [h5, cond_true]
    omega
theorem vc_asked (l : Lnd) (x : Exc) (h : Hp) (hn : l.ss.length ≤ 4000000) (hv : l.vs.length ≤ 4000000) (hp : x.ps.length ≤ 4000000) : VC Try.prog 25 [vL l, vX x] h (.tuple [if askE l x = 0 then .fp (encN l) else .nilptr, I (askE l x)]) h := by
  obtain ⟨E, hE⟩ : ∃ E, E = askE l x := ⟨_, rfl⟩
  rw [← hE]
  unfold askE at hE
  have cw := fun h => vc_whole x.ps (fun p => decide (0 ≤ p ∧ p ≤ x.w)) 53 [.pt (encX x)] hp (fun p h => vc_asked1 p x h) h
  generalize (x.ps.all fun p => decide (0 ≤ p ∧ p ≤ x.w)) = b at cw hE
  by_cases h0 : chk l = 0
  · have ho := fun h => vc_opened_ok l h (chk_ok.1 h0)
    refine VC.body Try.func25 rfl Try.ntmps25 Try.call25 (h.grows_refl) rfl ?_; conv => whnf
    repeat' (first | ((first | refine zs1 ?_ | refine zs2 ?_ | refine zs3 ?_ | refine zs4 ?_ | refine zs5 ?_ | refine zs6 [] ?_); conv => whnf) | ((first | apply zi1 | apply zi2 | apply zi3 | apply zi4 | apply zi5) <;> intro _ <;> conv => whnf) | (refine VCall.intro (ho _) ?_; conv => whnf) | (refine VCall.intro (vc_from _ _ _ _) ?_; conv => whnf))
    · rw [show E = 4 by omega]; exact VOut.same rfl
    · rw [show E = 3 by omega]; exact VOut.same rfl
    · refine VCall.intro (VC.give (args' := [ints x.ps, .func (.func 53) [] [.fp (encX x)]]) (loc' := [.flat true (encN l), .dead]) [(1, encX x)] [] (OutOk.lift _) zb zf (by exact FmAll.nil) rfl zv (cw _)) ?_
      rw [if_neg (by omega), if_neg (by omega), if_neg (by omega)] at hE
      conv => whnf
      cases b
      · conv => whnf
        repeat' (first | ((first | refine zs1 ?_ | refine zs2 ?_ | refine zs3 ?_ | refine zs4 ?_ | refine zs5 ?_ | refine zs6 [] ?_); conv => whnf) | ((first | apply zi1 | apply zi2 | apply zi3 | apply zi4 | apply zi5) <;> intro _ <;> conv => whnf))
        rw [show E = 4 from hE]; exact VOut.same rfl
      · conv => whnf
        repeat' (first | ((first | refine zs1 ?_ | refine zs2 ?_ | refine zs3 ?_ | refine zs4 ?_ | refine zs5 ?_ | refine zs6 [] ?_); conv => whnf) | ((first | apply zi1 | apply zi2 | apply zi3 | apply zi4 | apply zi5) <;> intro _ <;> conv => whnf))
        rw [show E = 0 from hE]; exact VOut.same rfl
  · have ho := fun h => vc_opened_no l h hn hv h0
    rw [if_pos h0] at hE
    subst hE
    refine VC.body Try.func25 rfl Try.ntmps25 Try.call25 (h.grows_refl) rfl ?_; conv => whnf
    repeat' (first | ((first | refine zs1 ?_ | refine zs2 ?_ | refine zs3 ?_ | refine zs4 ?_ | refine zs5 ?_ | refine zs6 [] ?_); conv => whnf) | ((first | apply zi1 | apply zi2 | apply zi3 | apply zi4 | apply zi5) <;> intro _ <;> conv => whnf) | (refine VCall.intro (ho _) ?_; conv => whnf))
    all_goals first | omega | (rw [if_neg h0]; exact VOut.same rfl)
theorem vc_asked_ok (l : Lnd) (x : Exc) (h : Hp) (o : Ok l) (ox : XOk l x) : VC Try.prog 25 [vL l, vX x] h (.tuple [.fp (encN l), I 0]) h := by
  have := vc_asked l x h (by have := o.n; omega) (by have := o.v; omega) (by have := o.n; have := ox.len; omega)
  rw [ask_ok.2 ⟨o, ox⟩, if_pos rfl] at this; exact this
end Go.Proofs.Ytaodhdpopklipaa.Bt

open Go.Vm
namespace Go.Proofs.Ytaodhdpopklipaa.Bt
set_option maxRecDepth 20000
set_option maxHeartbeats 1000000

theorem vc_m1 (s : Str) (h : Hp) : VC Try.prog 76 [.agg [I s.ow, I s.no, I s.so, I s.we]] h (I s.no) h := by
  refine VC.body Try.func76 rfl Try.ntmps76 Try.call76 (h.grows_refl) rfl ?_; conv => whnf
  repeat' (first | ((first | refine zs1 ?_ | refine zs2 ?_ | refine zs3 ?_ | refine zs4 ?_ | refine zs5 ?_ | refine zs6 [] ?_); conv => whnf) | ((first | apply zi1 | apply zi2 | apply zi3 | apply zi4 | apply zi5) <;> intro _ <;> conv => whnf))
  exact VOut.same rfl
theorem vc_m3 (s : Str) (h : Hp) : VC Try.prog 78 [.agg [I s.ow, I s.no, I s.so, I s.we]] h (I s.so) h := by
  refine VC.body Try.func78 rfl Try.ntmps78 Try.call78 (h.grows_refl) rfl ?_; conv => whnf
  repeat' (first | ((first | refine zs1 ?_ | refine zs2 ?_ | refine zs3 ?_ | refine zs4 ?_ | refine zs5 ?_ | refine zs6 [] ?_); conv => whnf) | ((first | apply zi1 | apply zi2 | apply zi3 | apply zi4 | apply zi5) <;> intro _ <;> conv => whnf))
  exact VOut.same rfl
theorem vc_m2 (x : Exc) (i : Nat) (p : Int) (h : Hp) (hp : x.ps[i]? = some p) : VC Try.prog 77 [vX x, I i] h (I p) h := by
  refine VC.body Try.func77 rfl Try.ntmps77 Try.call77 (h.grows_refl) rfl ?_; conv => whnf
  repeat' (first | ((first | refine zs1 ?_ | refine zs2 ?_ | refine zs3 ?_ | refine zs4 ?_ | refine zs5 ?_ | refine zs6 [] ?_); conv => whnf) | ((first | apply zi1 | apply zi2 | apply zi3 | apply zi4 | apply zi5) <;> intro _ <;> conv => whnf) | (refine VAny.ix encI_len i rfl rfl hp ?_; conv => whnf))
  exact VOut.same rfl
theorem vc_m4 (x : Exc) (i : Nat) (p : Int) (h : Hp) (hp : x.ps[i]? = some p) (hb : 0 ≤ p ∧ p ≤ x.w) (hw : x.w ≤ 4000) : VC Try.prog 79 [vX x, I i] h (I (x.w - p)) h := by
  refine VC.body Try.func79 rfl Try.ntmps79 Try.call79 (h.grows_refl) rfl ?_; conv => whnf
  repeat' (first | ((first | refine zs1 ?_ | refine zs2 ?_ | refine zs3 ?_ | refine zs4 ?_ | refine zs5 ?_ | refine zs6 [] ?_); conv => whnf) | ((first | apply zi1 | apply zi2 | apply zi3 | apply zi4 | apply zi5) <;> intro _ <;> conv => whnf) | (refine VAny.ix encI_len i rfl rfl hp ?_; conv => whnf))
  exact VOut.same rfl
def vMeas : V := .agg [.func (.func 76) [] [], .func (.func 77) [] [], .func (.func 78) [] [], .func (.func 79) [] []]
theorem vc_measures (h : Hp) : VC Try.prog 71 [] h vMeas h := by
  refine VC.body Try.func71 rfl Try.ntmps71 Try.call71 (h.grows_refl) rfl ?_; conv => whnf
  repeat' (first | ((first | refine zs1 ?_ | refine zs2 ?_ | refine zs3 ?_ | refine zs4 ?_ | refine zs5 ?_ | refine zs6 [] ?_); conv => whnf) | ((first | apply zi1 | apply zi2 | apply zi3 | apply zi4 | apply zi5) <;> intro _ <;> conv => whnf))
  exact VOut.same rfl
def hN : List Str → List Int → Int
  | s :: ss, p :: ps => s.no * p + hN ss ps
  | _, _ => 0
def hS (w : Int) : List Str → List Int → Int
  | s :: ss, p :: ps => s.so * (w - p) + hS w ss ps
  | _, _ => 0
def hasN (l : Lnd) (x : Exc) : Int := hN l.ss x.ps
def hasS (l : Lnd) (x : Exc) : Int := hS x.w l.ss x.ps
theorem hN_at {ss : List Str} {ps : List Int} {k : Nat} {s : Str} {p : Int} (hs : ss[k]? = some s) (hp : ps[k]? = some p) : hN (ss.drop k) (ps.drop k) = s.no * p + hN (ss.drop (k + 1)) (ps.drop (k + 1)) := by
  obtain ⟨h1, rfl⟩ := List.getElem?_eq_some_iff.1 hs
  obtain ⟨h2, rfl⟩ := List.getElem?_eq_some_iff.1 hp
  rw [List.drop_eq_getElem_cons h1, List.drop_eq_getElem_cons h2, hN]
theorem hS_at {w : Int} {ss : List Str} {ps : List Int} {k : Nat} {s : Str} {p : Int} (hs : ss[k]? = some s) (hp : ps[k]? = some p) : hS w (ss.drop k) (ps.drop k) = s.so * (w - p) + hS w (ss.drop (k + 1)) (ps.drop (k + 1)) := by
  obtain ⟨h1, rfl⟩ := List.getElem?_eq_some_iff.1 hs
  obtain ⟨h2, rfl⟩ := List.getElem?_eq_some_iff.1 hp
  rw [List.drop_eq_getElem_cons h1, List.drop_eq_getElem_cons h2, hS]
theorem mul_le {a b A B : Int} (ha : 0 ≤ a ∧ a ≤ A) (hb : 0 ≤ b ∧ b ≤ B) : 0 ≤ a * b ∧ a * b ≤ A * B :=
  ⟨Int.mul_nonneg ha.1 hb.1, Int.mul_le_mul ha.2 hb.2 hb.1 (by omega)⟩
theorem hN_bd {w : Int} (hw : w ≤ 2000) : ∀ (ss : List Str) (ps : List Int), (∀ s ∈ ss, 1 ≤ s.no ∧ s.no ≤ 1000) → (∀ p ∈ ps, 0 ≤ p ∧ p ≤ w) → 0 ≤ hN ss ps ∧ hN ss ps ≤ 2000000 * ss.length
  | [], ps, _, _ => by cases ps <;> simp [hN]
  | s :: ss, [], _, _ => by simp [hN]; omega
  | s :: ss, p :: ps, h1, h2 => by
    have ih := hN_bd hw ss ps (fun s hs => h1 s (by simp [hs])) (fun p hp => h2 p (by simp [hp]))
    have a := h1 s (by simp)
    have b := h2 p (by simp)
    have := mul_le (a := s.no) (b := p) (A := 1000) (B := 2000) (by omega) (by omega)
    rw [hN, List.length_cons]
    omega
theorem hS_bd {w : Int} (hw : w ≤ 2000) : ∀ (ss : List Str) (ps : List Int), (∀ s ∈ ss, 1 ≤ s.so ∧ s.so ≤ 1000) → (∀ p ∈ ps, 0 ≤ p ∧ p ≤ w) → 0 ≤ hS w ss ps ∧ hS w ss ps ≤ 2000000 * ss.length
  | [], ps, _, _ => by cases ps <;> simp [hS]
  | s :: ss, [], _, _ => by simp [hS]; omega
  | s :: ss, p :: ps, h1, h2 => by
    have ih := hS_bd hw ss ps (fun s hs => h1 s (by simp [hs])) (fun p hp => h2 p (by simp [hp]))
    have a := h1 s (by simp)
    have b := h2 p (by simp)
    have := mul_le (a := s.so) (b := w - p) (A := 1000) (B := 2000) (by omega) (by omega)
    rw [hS, List.length_cons]
    omega
theorem Ok.nos {l : Lnd} (o : Ok l) (k : Nat) : ∀ s ∈ l.ss.drop k, 1 ≤ s.no ∧ s.no ≤ 1000 := fun s hs => (o.ss s (List.mem_of_mem_drop hs)).no
theorem Ok.sos {l : Lnd} (o : Ok l) (k : Nat) : ∀ s ∈ l.ss.drop k, 1 ≤ s.so ∧ s.so ≤ 1000 := fun s hs => (o.ss s (List.mem_of_mem_drop hs)).so
theorem XOk.pss {l : Lnd} {x : Exc} (o : XOk l x) (k : Nat) : ∀ p ∈ x.ps.drop k, 0 ≤ p ∧ p ≤ x.w := fun s hs => o.ps s (List.mem_of_mem_drop hs)
theorem hasN_bd {l : Lnd} {x : Exc} (o : Ok l) (ox : XOk l x) (k : Nat) : 0 ≤ hN (l.ss.drop k) (x.ps.drop k) ∧ hN (l.ss.drop k) (x.ps.drop k) ≤ 32000000 := by
  have := hN_bd ox.w.2 _ _ (o.nos k) (ox.pss k)
  have := o.n
  rw [List.length_drop] at *
  omega
theorem hasS_bd {l : Lnd} {x : Exc} (o : Ok l) (ox : XOk l x) (k : Nat) : 0 ≤ hS x.w (l.ss.drop k) (x.ps.drop k) ∧ hS x.w (l.ss.drop k) (x.ps.drop k) ≤ 32000000 := by
  have := hS_bd ox.w.2 _ _ (o.sos k) (ox.pss k)
  have := o.n
  rw [List.length_drop] at *
  omega
theorem vc_has (l : Lnd) (x : Exc) (h : Hp) (o : Ok l) (ox : XOk l x) : VC Try.prog 47 [.fp (encN l), vX x] h (.agg [I (hasN l x), I (hasS l x)]) h := by
  have hn := o.n
  have hl := ox.len
  have hw := ox.w
  refine VC.body Try.func47 rfl Try.ntmps47 Try.call47 (h.grows_refl) rfl ?_; conv => whnf
  repeat' (first | ((first | refine zs1 ?_ | refine zs2 ?_ | refine zs3 ?_ | refine zs4 ?_ | refine zs5 ?_ | refine zs6 [] ?_); conv => whnf) | ((first | apply zi1 | apply zi2 | apply zi3 | apply zi4 | apply zi5) <;> intro _ <;> conv => whnf) | (refine VCall.intro (vc_measures _) ?_; conv => whnf))
  refine VCode.lp (fun j : Nat × Int × Int => [(0, .fp (encN l)), (3, .ptr (.loc 0) 0), (4, .ptr (.loc 1) 0), (5, .ptr (.loc 2) 0), (10, vMeas), (11, I j.1)])
    (fun j => [.flat true (encX x), .flat true [DI 0, DI 0], .flat true [DI j.2.1, DI j.2.2]]) (fun j => j = (0, 0, 0) ∨ j = (1, hasN l x, 0) ∨ j = (2, hasN l x, hasS l x)) (fun j => 2 - j.1) (0, 0, 0) (.inl rfl) ?_ ?_
  · conv => whnf
    refine Retell.turn ⟨[0,1,2], 3, [], []⟩ (TurnOk.mk' _ _ [] [] (OutOk.lift _) rfl (by decide) zb trivial trivial rfl) zv zm
  · rintro j hj
    conv => whnf
    refine VIte.dec (fun h3 => ?_) (fun h3 => ?_)
    · rcases hj with rfl | rfl | rfl
      · conv => whnf
        repeat' (first | ((first | refine zs1 ?_ | refine zs2 ?_ | refine zs3 ?_ | refine zs4 ?_ | refine zs5 ?_ | refine zs6 [] ?_); conv => whnf) | ((first | apply zi1 | apply zi2 | apply zi3 | apply zi4 | apply zi5) <;> intro _ <;> conv => whnf))
        refine VCode.lp (fun y : Nat × Int => [(0, .fp (encN l)), (3, .ptr (.loc 0) 0), (4, .ptr (.loc 1) 0), (5, .ptr (.loc 2) 0), (6, I 0), (7, .ptr (.loc 3) 0), (10, vMeas), (11, I 0), (19, strs l.ss), (20, I l.ss.length), (21, I y.1)])
          (fun y => [.flat true (encX x), .flat true [DI 0, DI 0], .flat true [DI y.2, DI 0], .cells true [.func (.func 76) [] [], .func (.func 77) [] []]]) (fun y => y.1 ≤ l.ss.length ∧ hasN l x = y.2 + hN (l.ss.drop y.1) (x.ps.drop y.1)) (fun y => l.ss.length - y.1) (0, 0) ⟨Nat.zero_le _, by rw [Int.zero_add]; rfl⟩ ?_ ?_
        · conv => whnf
          refine Retell.turn ⟨[0,1,2,3], 4, [], []⟩ (TurnOk.mk' _ _ [] [] (OutOk.lift _) rfl (by decide) zb trivial trivial rfl) zv zm
        · rintro ⟨k, a⟩ ⟨hk, h1⟩
          dsimp only at hk h1
          have c0 := hasN_bd o ox 0
          have c1 := hasN_bd o ox k
          have c3 := hasN_bd o ox (k + 1)
          have c5 : hasN l x = hN (l.ss.drop 0) (x.ps.drop 0) := rfl
          rw [← c5] at c0
          conv => whnf
          refine VIte.dec (fun h4 => ?_) (fun h4 => ?_)
          · have hs : l.ss[k]? = some l.ss[k] := List.getElem?_eq_getElem (by omega)
            have hp : x.ps[k]? = some x.ps[k] := List.getElem?_eq_getElem (by omega)
            have q1 := o.ss _ (List.getElem_mem (by omega : k < l.ss.length))
            have q2 := ox.ps _ (List.getElem_mem (by omega : k < x.ps.length))
            rw [hN_at hs hp] at h1 c1
            generalize l.ss[k] = s at hs h1 q1 c1
            generalize x.ps[k] = p at hp h1 q2 c1
            have q3 := q1.no
            have q4 := q1.so
            have m1 := mul_le (a := s.no) (b := p) (A := 1000) (B := 2000) (by omega) (by omega)
            conv => whnf
            repeat' (first | ((first | refine zs1 ?_ | refine zs2 ?_ | refine zs3 ?_ | refine zs4 ?_ | refine zs5 ?_ | refine zs6 [(2, 6), (6, 8), (6, 9), (2, 11)] ?_); conv => whnf) | ((first | apply zi1 | apply zi2 | apply zi3 | apply zi4 | apply zi5) <;> intro _ <;> conv => whnf) | (refine VAny.ix encT_len k rfl rfl hs ?_; conv => whnf) | (refine VCall.intro (vc_m1 s _) ?_; conv => whnf) | (refine VCall.intro (vc_m2 x k p _ hp) ?_; conv => whnf))
            refine LEnd.intro (k + 1, a + s.no * p) ⟨by dsimp only; omega, by dsimp only; omega⟩ (by dsimp only; omega) ?_
            conv => whnf
            refine Retell.turn ⟨[0,1,2,3], 5, [], []⟩ (TurnOk.mk' _ _ [] [] (OutOk.lift _) rfl (by decide) zb trivial trivial rfl) zv zm
          · have hkn : k = l.ss.length := by dsimp only at h4; omega
            subst hkn
            have hz : hN (l.ss.drop l.ss.length) (x.ps.drop l.ss.length) = 0 := by rw [List.drop_of_length_le (Nat.le_refl _)]; cases x.ps.drop l.ss.length <;> rfl
            rw [hz, Int.add_zero] at h1
            subst h1
            conv => whnf
            repeat' (first | ((first | refine zs1 ?_ | refine zs2 ?_ | refine zs3 ?_ | refine zs4 ?_ | refine zs5 ?_ | refine zs6 [] ?_); conv => whnf) | ((first | apply zi1 | apply zi2 | apply zi3 | apply zi4 | apply zi5) <;> intro _ <;> conv => whnf))
            refine LEnd.intro (1, hasN l x, 0) (.inr (.inl rfl)) (by show 2 - 1 < 2 - 0; omega) ?_
            conv => whnf
            refine Retell.turn ⟨[0,1,2], 4, [], []⟩ (TurnOk.mk' _ _ [] [] (OutOk.lift _) rfl (by decide) zb trivial trivial rfl) zv zm
      · conv => whnf
        repeat' (first | ((first | refine zs1 ?_ | refine zs2 ?_ | refine zs3 ?_ | refine zs4 ?_ | refine zs5 ?_ | refine zs6 [] ?_); conv => whnf) | ((first | apply zi1 | apply zi2 | apply zi3 | apply zi4 | apply zi5) <;> intro _ <;> conv => whnf))
        refine VCode.lp (fun y : Nat × Int => [(0, .fp (encN l)), (3, .ptr (.loc 0) 0), (4, .ptr (.loc 1) 0), (5, .ptr (.loc 2) 0), (6, I 1), (7, .ptr (.loc 3) 0), (10, vMeas), (11, I 1), (19, strs l.ss), (20, I l.ss.length), (21, I y.1)])
          (fun y => [.flat true (encX x), .flat true [DI 0, DI 0], .flat true [DI (hasN l x), DI y.2], .cells true [.func (.func 78) [] [], .func (.func 79) [] []]]) (fun y => y.1 ≤ l.ss.length ∧ hasS l x = y.2 + hS x.w (l.ss.drop y.1) (x.ps.drop y.1)) (fun y => l.ss.length - y.1) (0, 0) ⟨Nat.zero_le _, by rw [Int.zero_add]; rfl⟩ ?_ ?_
        · conv => whnf
          refine Retell.turn ⟨[0,1,2,3], 4, [], []⟩ (TurnOk.mk' _ _ [] [] (OutOk.lift _) rfl (by decide) zb trivial trivial rfl) zv zm
        · rintro ⟨k, a⟩ ⟨hk, h1⟩
          dsimp only at hk h1
          have c0 := hasS_bd o ox 0
          have c1 := hasS_bd o ox k
          have c3 := hasS_bd o ox (k + 1)
          have c5 : hasS l x = hS x.w (l.ss.drop 0) (x.ps.drop 0) := rfl
          rw [← c5] at c0
          conv => whnf
          refine VIte.dec (fun h4 => ?_) (fun h4 => ?_)
          · have hs : l.ss[k]? = some l.ss[k] := List.getElem?_eq_getElem (by omega)
            have hp : x.ps[k]? = some x.ps[k] := List.getElem?_eq_getElem (by omega)
            have q1 := o.ss _ (List.getElem_mem (by omega : k < l.ss.length))
            have q2 := ox.ps _ (List.getElem_mem (by omega : k < x.ps.length))
            rw [hS_at hs hp] at h1 c1
            generalize l.ss[k] = s at hs h1 q1 c1
            generalize x.ps[k] = p at hp h1 q2 c1
            have q3 := q1.no
            have q4 := q1.so
            have m1 := mul_le (a := s.so) (b := (x.w - p)) (A := 1000) (B := 2000) (by omega) (by omega)
            conv => whnf
            repeat' (first | ((first | refine zs1 ?_ | refine zs2 ?_ | refine zs3 ?_ | refine zs4 ?_ | refine zs5 ?_ | refine zs6 [(2, 6), (6, 8), (6, 9), (2, 11)] ?_); conv => whnf) | ((first | apply zi1 | apply zi2 | apply zi3 | apply zi4 | apply zi5) <;> intro _ <;> conv => whnf) | (refine VAny.ix encT_len k rfl rfl hs ?_; conv => whnf) | (refine VCall.intro (vc_m3 s _) ?_; conv => whnf) | (refine VCall.intro (vc_m4 x k p _ hp q2 (by omega)) ?_; conv => whnf))
            refine LEnd.intro (k + 1, a + s.so * (x.w - p)) ⟨by dsimp only; omega, by dsimp only; omega⟩ (by dsimp only; omega) ?_
            conv => whnf
            refine Retell.turn ⟨[0,1,2,3], 5, [], []⟩ (TurnOk.mk' _ _ [] [] (OutOk.lift _) rfl (by decide) zb trivial trivial rfl) zv zm
          · have hkn : k = l.ss.length := by dsimp only at h4; omega
            subst hkn
            have hz : hS x.w (l.ss.drop l.ss.length) (x.ps.drop l.ss.length) = 0 := by rw [List.drop_of_length_le (Nat.le_refl _)]; cases x.ps.drop l.ss.length <;> rfl
            rw [hz, Int.add_zero] at h1
            subst h1
            conv => whnf
            repeat' (first | ((first | refine zs1 ?_ | refine zs2 ?_ | refine zs3 ?_ | refine zs4 ?_ | refine zs5 ?_ | refine zs6 [] ?_); conv => whnf) | ((first | apply zi1 | apply zi2 | apply zi3 | apply zi4 | apply zi5) <;> intro _ <;> conv => whnf))
            refine LEnd.intro (2, hasN l x, hasS l x) (.inr (.inr rfl)) (by show 2 - 2 < 2 - 1; omega) ?_
            conv => whnf
            refine Retell.turn ⟨[0,1,2], 4, [], []⟩ (TurnOk.mk' _ _ [] [] (OutOk.lift _) rfl (by decide) zb trivial trivial rfl) zv zm
      · exfalso; dsimp only at h3; omega
    · rcases hj with rfl | rfl | rfl
      · exfalso; dsimp only at h3; omega
      · exfalso; dsimp only at h3; omega
      · conv => whnf
        repeat' (first | ((first | refine zs1 ?_ | refine zs2 ?_ | refine zs3 ?_ | refine zs4 ?_ | refine zs5 ?_ | refine zs6 [] ?_); conv => whnf) | ((first | apply zi1 | apply zi2 | apply zi3 | apply zi4 | apply zi5) <;> intro _ <;> conv => whnf))
        exact VOut.same rfl
end Go.Proofs.Ytaodhdpopklipaa.Bt

open Go.Vm
namespace Go.Proofs.Ytaodhdpopklipaa.Bt
set_option maxRecDepth 20000
set_option maxHeartbeats 1000000
theorem vc_sum2 (a b : Spn) (h : Hp) (ha : -1000000000 ≤ a.lo ∧ a.lo ≤ 1000000000 ∧ -1000000000 ≤ a.hi ∧ a.hi ≤ 1000000000) (hb : -1000000000 ≤ b.lo ∧ b.lo ≤ 1000000000 ∧ -1000000000 ≤ b.hi ∧ b.hi ≤ 1000000000) :
    VC Try.prog 49 [spans [a, b]] h (.agg [I (a.lo + b.lo), I (a.hi + b.hi)]) h := by
  refine VC.body Try.func49 rfl Try.ntmps49 Try.call49 (h.grows_refl) rfl ?_; conv => whnf
  repeat' (first | ((first | refine zs1 ?_ | refine zs2 ?_ | refine zs3 ?_ | refine zs4 ?_ | refine zs5 ?_ | refine zs6 [] ?_); conv => whnf) | ((first | apply zi1 | apply zi2 | apply zi3 | apply zi4 | apply zi5) <;> intro _ <;> conv => whnf))
  refine VCode.lp (fun y : Nat × Int × Int => [(2, .ptr (.loc 0) 0), (3, .ptr (.loc 1) 0), (6, spans [a, b]), (7, I 2), (8, I y.1)]) (fun y => [.flat true [DI 0, DI 0], .flat true [DI y.2.1, DI y.2.2]]) (fun y => y = (0, 0, 0) ∨ y = (1, a.lo, a.hi) ∨ y = (2, a.lo + b.lo, a.hi + b.hi)) (fun y => 2 - y.1) (0, 0, 0) (.inl rfl) ?_ ?_
  · conv => whnf
    refine Retell.turn ⟨[0,1], 2, [], []⟩ (TurnOk.mk' _ _ [] [] (OutOk.lift _) rfl (by decide) zb trivial trivial rfl) zv zm
  · rintro y hy
    conv => whnf
    refine VIte.dec (fun h3 => ?_) (fun h3 => ?_)
    · rcases hy with rfl | rfl | rfl
      · have hx : [a, b][0]? = some a := rfl
        conv => whnf
        repeat' (first | ((first | refine zs1 ?_ | refine zs2 ?_ | refine zs3 ?_ | refine zs4 ?_ | refine zs5 ?_ | refine zs6 [] ?_); conv => whnf) | ((first | apply zi1 | apply zi2 | apply zi3 | apply zi4 | apply zi5) <;> intro _ <;> conv => whnf) | (refine VAny.ix encS_len 0 rfl rfl hx ?_; conv => whnf))
        refine LEnd.intro (1, a.lo, a.hi) (.inr (.inl rfl)) (by show 2 - 1 < 2 - 0; omega) ?_
        conv => whnf
        rw [show (0 : Int) + a.lo = a.lo by omega, show (0 : Int) + a.hi = a.hi by omega]
        refine Retell.turn ⟨[0,1], 3, [], []⟩ (TurnOk.mk' _ _ [] [] (OutOk.lift _) rfl (by decide) zb trivial trivial rfl) zv zm
      · have hx : [a, b][1]? = some b := rfl
        conv => whnf
        repeat' (first | ((first | refine zs1 ?_ | refine zs2 ?_ | refine zs3 ?_ | refine zs4 ?_ | refine zs5 ?_ | refine zs6 [] ?_); conv => whnf) | ((first | apply zi1 | apply zi2 | apply zi3 | apply zi4 | apply zi5) <;> intro _ <;> conv => whnf) | (refine VAny.ix encS_len 1 rfl rfl hx ?_; conv => whnf))
        refine LEnd.intro (2, a.lo + b.lo, a.hi + b.hi) (.inr (.inr rfl)) (by show 2 - 2 < 2 - 1; omega) ?_
        conv => whnf
        refine Retell.turn ⟨[0,1], 3, [], []⟩ (TurnOk.mk' _ _ [] [] (OutOk.lift _) rfl (by decide) zb trivial trivial rfl) zv zm
      · exfalso; dsimp only at h3; omega
    · rcases hy with rfl | rfl | rfl
      · exfalso; dsimp only at h3; omega
      · exfalso; dsimp only at h3; omega
      · conv => whnf
        repeat' (first | ((first | refine zs1 ?_ | refine zs2 ?_ | refine zs3 ?_ | refine zs4 ?_ | refine zs5 ?_ | refine zs6 [] ?_); conv => whnf) | ((first | apply zi1 | apply zi2 | apply zi3 | apply zi4 | apply zi5) <;> intro _ <;> conv => whnf))
        exact VOut.same rfl
theorem now_ok {l : Lnd} (o : Ok l) : XOk l (nowX l) where
  w := ⟨Int.le_refl _, by show (1 : Int) ≤ 2000; decide⟩
  len := nowP_len l
  ps := fun p hp => by
    obtain ⟨s, hs, rfl⟩ := List.mem_map.1 hp
    have := (o.ss s hs).ow
    show 0 ≤ 1 - s.ow ∧ 1 - s.ow ≤ 1
    omega
theorem hasN_b {l : Lnd} {x : Exc} (o : Ok l) (ox : XOk l x) : 0 ≤ hasN l x ∧ hasN l x ≤ 32000000 := hasN_bd o ox 0
theorem hasS_b {l : Lnd} {x : Exc} (o : Ok l) (ox : XOk l x) : 0 ≤ hasS l x ∧ hasS l x ≤ 32000000 := hasS_bd o ox 0
theorem hN_b1 : ∀ (ss : List Str) (ps : List Int), (∀ s ∈ ss, 1 ≤ s.no ∧ s.no ≤ 1000) → (∀ p ∈ ps, 0 ≤ p ∧ p ≤ 1) → hN ss ps ≤ 1000 * ss.length
  | [], ps, _, _ => by cases ps <;> simp [hN]
  | s :: ss, [], _, _ => by simp [hN]; omega
  | s :: ss, p :: ps, h1, h2 => by
    have ih := hN_b1 ss ps (fun s hs => h1 s (by simp [hs])) (fun p hp => h2 p (by simp [hp]))
    have a := h1 s (by simp)
    have b := h2 p (by simp)
    have := mul_le (a := s.no) (b := p) (A := 1000) (B := 1) (by omega) (by omega)
    rw [hN, List.length_cons]
    omega
theorem hS_b1 : ∀ (ss : List Str) (ps : List Int), (∀ s ∈ ss, 1 ≤ s.so ∧ s.so ≤ 1000) → (∀ p ∈ ps, 0 ≤ p ∧ p ≤ 1) → hS 1 ss ps ≤ 1000 * ss.length
  | [], ps, _, _ => by cases ps <;> simp [hS]
  | s :: ss, [], _, _ => by simp [hS]; omega
  | s :: ss, p :: ps, h1, h2 => by
    have ih := hS_b1 ss ps (fun s hs => h1 s (by simp [hs])) (fun p hp => h2 p (by simp [hp]))
    have a := h1 s (by simp)
    have b := h2 p (by simp)
    have := mul_le (a := s.so) (b := 1 - p) (A := 1000) (B := 1) (by omega) (by omega)
    rw [hS, List.length_cons]
    omega
theorem nowN_b {l : Lnd} (o : Ok l) : 0 ≤ hasN l (nowX l) ∧ hasN l (nowX l) ≤ 16000 := by
  have h1 := hasN_b o (now_ok o)
  have h2 := hN_b1 l.ss (nowP l) (o.nos 0) ((now_ok o).pss 0)
  have := o.n
  have e : hasN l (nowX l) = hN l.ss (nowP l) := rfl
  omega
theorem nowS_b {l : Lnd} (o : Ok l) : 0 ≤ hasS l (nowX l) ∧ hasS l (nowX l) ≤ 16000 := by
  have h1 := hasS_b o (now_ok o)
  have h2 := hS_b1 l.ss (nowP l) (o.sos 0) ((now_ok o).pss 0)
  have := o.n
  have e : hasS l (nowX l) = hS 1 l.ss (nowP l) := rfl
  omega
def gnN (l : Lnd) (x : Exc) : Int := hasN l x - x.w * hasN l (nowX l)
def gnS (l : Lnd) (x : Exc) : Int := hasS l x - x.w * hasS l (nowX l)
theorem vc_gains (l : Lnd) (x : Exc) (h : Hp) (o : Ok l) (ox : XOk l x) : VC Try.prog 23 [.fp (encN l), vX x] h (.agg [I (gnN l x), I (gnS l x)]) h := by
  have a1 := hasN_b o ox
  have a2 := hasS_b o ox
  have b1 := nowN_b o
  have b2 := nowS_b o
  have w := ox.w
  have m1 := mul_le (a := x.w) (b := hasN l (nowX l)) (A := 2000) (B := 16000) (by omega) b1
  have m2 := mul_le (a := x.w) (b := hasS l (nowX l)) (A := 2000) (B := 16000) (by omega) b2
  have c1 := fun h => vc_now l h o
  have c2 := fun h => vc_has l (nowX l) h o (now_ok o)
  have c3 := fun h => vc_has l x h o ox
  have e1 : gnN l x = hasN l x + (0 - x.w) * hasN l (nowX l) := by unfold gnN; rw [Int.sub_mul]; omega
  have e2 : gnS l x = hasS l x + (0 - x.w) * hasS l (nowX l) := by unfold gnS; rw [Int.sub_mul]; omega
  rw [e1, e2]
  generalize hasN l (nowX l) = A at *
  generalize hasS l (nowX l) = B at *
  generalize hasN l x = C at *
  generalize hasS l x = E at *
  have n1 : (0 - x.w) * A = -(x.w * A) := by rw [Int.sub_mul]; omega
  have n2 : (0 - x.w) * B = -(x.w * B) := by rw [Int.sub_mul]; omega
  have hs := fun h => vc_sum2 ⟨C, E⟩ ⟨(0 - x.w) * A, (0 - x.w) * B⟩ h (by dsimp only; omega) (by dsimp only; omega)
  refine VC.body Try.func23 rfl Try.ntmps23 Try.call23 (h.grows_refl) rfl ?_; conv => whnf
  repeat' (first | ((first | refine zs1 ?_ | refine zs2 ?_ | refine zs3 ?_ | refine zs4 ?_ | refine zs5 ?_ | refine zs6 [(2, 4), (2, 7), (2, 10), (2, 13)] ?_); conv => whnf) | ((first | apply zi1 | apply zi2 | apply zi3 | apply zi4 | apply zi5) <;> intro _ <;> conv => whnf) | (refine VCall.intro (c1 _) ?_; conv => whnf) | (refine VCall.intro (c2 _) ?_; conv => whnf) | (refine VCall.intro (c3 _) ?_; conv => whnf))
  refine VCall.intro (VC.give (args' := [spans [⟨C, E⟩, ⟨(0 - x.w) * A, (0 - x.w) * B⟩]]) (loc' := [.flat true (encX x), .flat true [DI 0, DI 0], .flat true [DI A, DI B], .dead]) [(3, [DI C, DI E, DI ((0 - x.w) * A), DI ((0 - x.w) * B)])] [] (OutOk.lift _) zb zf (by exact FmAll.nil) rfl zv (hs _)) ?_
  conv => whnf
  repeat' (first | ((first | refine zs1 ?_ | refine zs2 ?_ | refine zs3 ?_ | refine zs4 ?_ | refine zs5 ?_ | refine zs6 [] ?_); conv => whnf) | ((first | apply zi1 | apply zi2 | apply zi3 | apply zi4 | apply zi5) <;> intro _ <;> conv => whnf))
  exact VOut.same rfl
theorem vc_Gains_ok (l : Lnd) (x : Exc) (h : Hp) (o : Ok l) (ox : XOk l x) : VC Try.prog 12 [vL l, vX x] h (.tuple [I (gnN l x), I (gnS l x), I 0]) h := by
  refine VC.body Try.func12 rfl Try.ntmps12 Try.call12 (h.grows_refl) rfl ?_; conv => whnf
  repeat' (first | ((first | refine zs1 ?_ | refine zs2 ?_ | refine zs3 ?_ | refine zs4 ?_ | refine zs5 ?_ | refine zs6 [] ?_); conv => whnf) | ((first | apply zi1 | apply zi2 | apply zi3 | apply zi4 | apply zi5) <;> intro _ <;> conv => whnf) | (refine VCall.intro (vc_asked_ok l x _ o ox) ?_; conv => whnf) | (refine VCall.intro (vc_gains l x _ o ox) ?_; conv => whnf))
  exact VOut.same rfl
end Go.Proofs.Ytaodhdpopklipaa.Bt

open Go.Vm
namespace Go.Vm
theorem iterN_seq {P : Program} {i : Id} {ys : Nat → Option (List V)} {h : Hp} {I : Nat → Hp → Prop} {E : Hp → Prop} : ∀ (m : Nat), (∀ k g, k < m → I k g → match ys k with
    | none => I (k + 1) g
    | some vs => (∃ g', VY P i vs g (.s (.bool true)) g' ∧ I (k + 1) g') ∨ ∃ g', VY P i vs g (.s (.bool false)) g' ∧ E g') → I 0 h →
    ∃ (s : Nat) (g : Nat → Hp), g 0 = h ∧ s ≤ m ∧ (∀ k, k < s → (ys k = none ∧ g (k + 1) = g k) ∨ ∃ vs, ys k = some vs ∧ VY P i vs (g k) (.s (.bool true)) (g (k + 1))) ∧
      ((s = m ∧ I m (g m)) ∨ (s < m ∧ ∃ vs g', ys s = some vs ∧ VY P i vs (g s) (.s (.bool false)) g' ∧ E g'))
  | 0, _, h0 => ⟨0, fun _ => h, rfl, Nat.le_refl _, fun k hk => absurd hk (Nat.not_lt_zero _), .inl ⟨rfl, h0⟩⟩
  | m + 1, hs, h0 => by
    obtain ⟨s, g, g0, hsm, g1, g2⟩ := iterN_seq m (fun k g hk hi => hs k g (by omega) hi) h0
    rcases g2 with ⟨rfl, hI⟩ | ⟨hlt, vs, g', a, b, c⟩
    · have := hs s (g s) (Nat.lt_succ_self _) hI
      have ext : ∀ gn : Hp, ∃ g2 : Nat → Hp, (∀ k, k ≤ s → g2 k = g k) ∧ g2 (s + 1) = gn := fun gn => ⟨fun k => if k = s + 1 then gn else g k, fun k hk => by simp only [if_neg (show ¬ k = s + 1 by omega)], by simp⟩
      cases hy : ys s with
      | none =>
        rw [hy] at this
        obtain ⟨g2, e1, e2⟩ := ext (g s)
        refine ⟨s + 1, g2, by rw [e1 0 (Nat.zero_le _)]; exact g0, Nat.le_refl _, fun k hk => ?_, .inl ⟨rfl, by rw [e2]; exact this⟩⟩
        rcases Nat.lt_or_ge k s with h1 | h1
        · rw [e1 k (by omega), e1 (k + 1) (by omega)]; exact g1 k h1
        · obtain rfl : k = s := by omega
          rw [e1 k (Nat.le_refl _), e2]; exact .inl ⟨hy, rfl⟩
      | some vs =>
        rw [hy] at this
        rcases this with ⟨g', a, b⟩ | ⟨g', a, b⟩
        · obtain ⟨g2, e1, e2⟩ := ext g'
          refine ⟨s + 1, g2, by rw [e1 0 (Nat.zero_le _)]; exact g0, Nat.le_refl _, fun k hk => ?_, .inl ⟨rfl, by rw [e2]; exact b⟩⟩
          rcases Nat.lt_or_ge k s with h1 | h1
          · rw [e1 k (by omega), e1 (k + 1) (by omega)]; exact g1 k h1
          · obtain rfl : k = s := by omega
            rw [e1 k (Nat.le_refl _), e2]; exact .inr ⟨vs, hy, a⟩
        · exact ⟨s, g, g0, Nat.le_succ _, g1, .inr ⟨Nat.lt_succ_self _, vs, g', hy, a, b⟩⟩
    · exact ⟨s, g, g0, by omega, g1, .inr ⟨by omega, vs, g', a, b, c⟩⟩
end Go.Vm
namespace Go.Proofs.Ytaodhdpopklipaa.Bt
set_option maxRecDepth 20000
set_option maxHeartbeats 1000000

def aggT (s : Str) : V := .agg [I s.ow, I s.no, I s.so, I s.we]
def vFree (l : Lnd) : V := .func (.func 68) [] [.fp [.pt (encN l)]]
theorem vc_free (l : Lnd) (h : Hp) : VC Try.prog 41 [.fp (encN l)] h (vFree l) h := by
  refine VC.body Try.func41 rfl Try.ntmps41 Try.call41 (h.grows_refl) rfl ?_; conv => whnf
  repeat (first | ((first | refine zs1 ?_ | refine zs2 ?_ | refine zs3 ?_ | refine zs4 ?_ | refine zs5 ?_ | refine zs6 [] ?_); conv => whnf))
  refine VOut.data 1 [(0, [.pt (encN l)])] [] rfl zf (by exact FmAll.nil) zv
def frY (l : Lnd) (k : Nat) : Option (List V) := match l.ss[k]? with
  | some s => bif isFree s then some [I k, aggT s] else none
  | none => none
theorem frY_eq {l : Lnd} {k : Nat} {s : Str} (hs : l.ss[k]? = some s) : frY l k = bif isFree s then some [I k, aggT s] else none := by unfold frY; rw [hs]
theorem iter_free (l : Lnd) (o : Ok l) : IterN Try.prog 68 [] [.fp [.pt (encN l)]] l.ss.length (frY l) := by
  intro h i J E hs h0
  have hn := o.n
  obtain ⟨S, g, g0, hS, g1, g2⟩ := iterN_seq l.ss.length hs h0
  have hgr : ∀ j, j ≤ S → h.grows (g j) := by
    intro j
    induction j with
    | zero => intro _; rw [g0]; exact h.grows_refl
    | succ j ih =>
      intro hj
      rcases g1 j (by omega) with ⟨_, e⟩ | ⟨vs, _, hv⟩
      · rw [e]; exact ih (by omega)
      · exact fun k hk => hv.1 k (ih (by omega) k hk)
  rcases g2 with ⟨hSm, hI⟩ | ⟨hSm, vs, gE, e1, e2, e3⟩
  · refine ⟨g l.ss.length, ?_, .inl hI⟩
    refine VC.body Try.func68 rfl Try.ntmps68 Try.call68 (hgr _ (by omega)) rfl ?_
    conv => whnf
    repeat' (first | ((first | refine zs1 ?_ | refine zs2 ?_ | refine zs3 ?_ | refine zs4 ?_ | refine zs5 ?_ | refine zs6 [] ?_); conv => whnf) | ((first | apply zi1 | apply zi2 | apply zi3 | apply zi4 | apply zi5) <;> intro _ <;> conv => whnf))
    refine VCode.lpo (fun k : Nat => [(0, .yld (.out i)), (1, .fp [.pt (encN l)]), (9, strs l.ss), (10, I l.ss.length), (11, I k)]) (fun k => (g k).lift) (fun _ => []) (fun k => k ≤ l.ss.length) (fun k => l.ss.length - k) 0 (Nat.zero_le _) (by rw [g0]) ?_ ?_
    · conv => whnf
      refine Retell.turn ⟨[], 0, [], []⟩ (TurnOk.mk' _ _ [] [] (OutOk.lift _) rfl (by decide) zb trivial trivial rfl) zv zm
    · rintro k hk
      conv => whnf
      refine VIte.dec (fun h3 => ?_) (fun h3 => ?_)
      · have hp : l.ss[k]? = some l.ss[k] := List.getElem?_eq_getElem (by omega)
        have hst := g1 k (by omega)
        rw [frY_eq hp] at hst
        have hc := fun h => vc_bound l k h (by omega)
        rw [bdAt_eq hp] at hc
        generalize l.ss[k] = s at hp hst hc
        cases hf : isFree s
        · rw [hf] at hst hc
          have hgk : g (k + 1) = g k := by
            rcases hst with ⟨_, e⟩ | ⟨vs, e, _⟩
            · exact e
            · cases e
          conv => whnf
          repeat' (first | ((first | refine zs1 ?_ | refine zs2 ?_ | refine zs3 ?_ | refine zs4 ?_ | refine zs5 ?_ | refine zs6 [] ?_); conv => whnf) | ((first | apply zi1 | apply zi2 | apply zi3 | apply zi4 | apply zi5) <;> intro _ <;> conv => whnf) | (refine VAny.ix encT_len k rfl rfl hp ?_; conv => whnf) | (refine VCall.intro (hc _) ?_; conv => whnf))
          refine LEndO.intro (k + 1) (by omega) (by omega) (by rw [hgk]; rfl) ?_
          rw [hgk]
          conv => whnf
          refine Retell.turn ⟨[], 2, [], []⟩ (TurnOk.mk' _ _ [] [] (OutOk.lift _) rfl (by decide) zb trivial trivial rfl) zv zm
        · rw [hf] at hst hc
          have hy : VY Try.prog i [I k, aggT s] (g k) (.s (.bool true)) (g (k + 1)) := by
            rcases hst with ⟨e, _⟩ | ⟨vs, e, hv⟩
            · cases e
            · cases e; exact hv
          conv => whnf
          repeat' (first | ((first | refine zs1 ?_ | refine zs2 ?_ | refine zs3 ?_ | refine zs4 ?_ | refine zs5 ?_ | refine zs6 [] ?_); conv => whnf) | ((first | apply zi1 | apply zi2 | apply zi3 | apply zi4 | apply zi5) <;> intro _ <;> conv => whnf) | (refine VAny.ix encT_len k rfl rfl hp ?_; conv => whnf) | (refine VCall.intro (hc _) ?_; conv => whnf) | (refine VYield.intro (VY.lift _ hy) ?_; conv => whnf))
          refine LEndO.intro (k + 1) (by omega) (by omega) rfl ?_
          conv => whnf
          refine Retell.turn ⟨[], 2, [], []⟩ (TurnOk.mk' _ _ [] [] (OutOk.lift _) rfl (by decide) zb trivial trivial rfl) zv zm
      · have hkM : k = l.ss.length := by omega
        subst hkM
        conv => whnf
        exact VOut.lifted (r := .tuple []) (hgr _ (by omega))
  · refine ⟨gE, ?_, .inr e3⟩
    have hgE : h.grows gE := fun k hk => e2.1 k (hgr S (Nat.le_refl _) k hk)
    refine VC.body Try.func68 rfl Try.ntmps68 Try.call68 hgE rfl ?_
    conv => whnf
    repeat' (first | ((first | refine zs1 ?_ | refine zs2 ?_ | refine zs3 ?_ | refine zs4 ?_ | refine zs5 ?_ | refine zs6 [] ?_); conv => whnf) | ((first | apply zi1 | apply zi2 | apply zi3 | apply zi4 | apply zi5) <;> intro _ <;> conv => whnf))
    refine VCode.lpo (fun k : Nat => [(0, .yld (.out i)), (1, .fp [.pt (encN l)]), (9, strs l.ss), (10, I l.ss.length), (11, I k)]) (fun k => (g k).lift) (fun _ => []) (fun k => k ≤ S) (fun k => S - k) 0 (Nat.zero_le _) (by rw [g0]) ?_ ?_
    · conv => whnf
      refine Retell.turn ⟨[], 0, [], []⟩ (TurnOk.mk' _ _ [] [] (OutOk.lift _) rfl (by decide) zb trivial trivial rfl) zv zm
    · rintro k hk
      conv => whnf
      refine VIte.dec (fun h3 => ?_) (fun h3 => ?_)
      · have hp : l.ss[k]? = some l.ss[k] := List.getElem?_eq_getElem (by omega)
        have hc := fun h => vc_bound l k h (by omega)
        rw [bdAt_eq hp] at hc
        rcases Nat.eq_or_lt_of_le hk with hkS | hkS
        · subst hkS
          rw [frY_eq hp] at e1
          generalize l.ss[k] = s at hp e1 hc
          cases hf : isFree s
          · rw [hf] at e1; cases e1
          · rw [hf] at e1 hc
            cases e1
            conv => whnf
            repeat' (first | ((first | refine zs1 ?_ | refine zs2 ?_ | refine zs3 ?_ | refine zs4 ?_ | refine zs5 ?_ | refine zs6 [] ?_); conv => whnf) | ((first | apply zi1 | apply zi2 | apply zi3 | apply zi4 | apply zi5) <;> intro _ <;> conv => whnf) | (refine VAny.ix encT_len k rfl rfl hp ?_; conv => whnf) | (refine VCall.intro (hc _) ?_; conv => whnf) | (refine VYield.intro (VY.lift _ e2) ?_; conv => whnf))
            refine VOut.turn ⟨[], 1, [], []⟩ (loc' := []) (r1' := .tuple []) (TurnOk.mk' [] 1 [] [] (OutOk.lift _) rfl List.nodup_nil BTos.nil trivial trivial rfl) zv ?_
            exact VOut.lifted (r := .tuple []) hgE
        · have hst := g1 k (by omega)
          rw [frY_eq hp] at hst
          generalize l.ss[k] = s at hp hst hc
          cases hf : isFree s
          · rw [hf] at hst hc
            have hgk : g (k + 1) = g k := by
              rcases hst with ⟨_, e⟩ | ⟨vs, e, _⟩
              · exact e
              · cases e
            conv => whnf
            repeat' (first | ((first | refine zs1 ?_ | refine zs2 ?_ | refine zs3 ?_ | refine zs4 ?_ | refine zs5 ?_ | refine zs6 [] ?_); conv => whnf) | ((first | apply zi1 | apply zi2 | apply zi3 | apply zi4 | apply zi5) <;> intro _ <;> conv => whnf) | (refine VAny.ix encT_len k rfl rfl hp ?_; conv => whnf) | (refine VCall.intro (hc _) ?_; conv => whnf))
            refine LEndO.intro (k + 1) (by omega) (by omega) (by rw [hgk]; rfl) ?_
            rw [hgk]
            conv => whnf
            refine Retell.turn ⟨[], 2, [], []⟩ (TurnOk.mk' _ _ [] [] (OutOk.lift _) rfl (by decide) zb trivial trivial rfl) zv zm
          · rw [hf] at hst hc
            have hy : VY Try.prog i [I k, aggT s] (g k) (.s (.bool true)) (g (k + 1)) := by
              rcases hst with ⟨e, _⟩ | ⟨vs, e, hv⟩
              · cases e
              · cases e; exact hv
            conv => whnf
            repeat' (first | ((first | refine zs1 ?_ | refine zs2 ?_ | refine zs3 ?_ | refine zs4 ?_ | refine zs5 ?_ | refine zs6 [] ?_); conv => whnf) | ((first | apply zi1 | apply zi2 | apply zi3 | apply zi4 | apply zi5) <;> intro _ <;> conv => whnf) | (refine VAny.ix encT_len k rfl rfl hp ?_; conv => whnf) | (refine VCall.intro (hc _) ?_; conv => whnf) | (refine VYield.intro (VY.lift _ hy) ?_; conv => whnf))
            refine LEndO.intro (k + 1) (by omega) (by omega) rfl ?_
            conv => whnf
            refine Retell.turn ⟨[], 2, [], []⟩ (TurnOk.mk' _ _ [] [] (OutOk.lift _) rfl (by decide) zb trivial trivial rfl) zv zm
      · exfalso; omega
/-! ### Prices and wastes -/
theorem vc_worth (s : Str) (h : Hp) : VC Try.prog 42 [aggT s] h (.agg [I s.no, I s.so]) h := by
  refine VC.body Try.func42 rfl Try.ntmps42 Try.call42 (h.grows_refl) rfl ?_; conv => whnf
  repeat' (first | ((first | refine zs1 ?_ | refine zs2 ?_ | refine zs3 ?_ | refine zs4 ?_ | refine zs5 ?_ | refine zs6 [] ?_); conv => whnf) | ((first | apply zi1 | apply zi2 | apply zi3 | apply zi4 | apply zi5) <;> intro _ <;> conv => whnf))
  exact VOut.same rfl
def fst2 (a b : Str) : Bool := decide (a.so * b.no < a.no * b.so)
theorem top89 : eqTop Try.prog 80 = some (Sh.cons 0 1 false Sh.int (Sh.cons 1 1 false Sh.int Sh.nil)) := by kernel_rfl
theorem veqW (a b c d : Int) : vaggeq Try.prog .eql 80 (.agg [I a, I b]) (.agg [I c, I d]) = some (B ((a == c) && ((b == d) && true))) := by
  unfold vaggeq
  rw [top89]
  rfl
theorem vc_ahead (a b c d : Int) (h : Hp) (ha : 0 ≤ a ∧ a ≤ 4000) (hb : 0 ≤ b ∧ b ≤ 4000) (hc : 0 ≤ c ∧ c ≤ 4000) (hd : 0 ≤ d ∧ d ≤ 4000) : VC Try.prog 46 [.agg [I a, I b], .agg [I c, I d]] h (I (a * d - b * c)) h := by
  have m1 := mul_le ha hd
  have m2 := mul_le hb hc
  obtain ⟨R, hR⟩ : ∃ R, R = a * d - b * c := ⟨_, rfl⟩
  rw [← hR]
  by_cases he : a = c ∧ b = d
  · obtain ⟨rfl, rfl⟩ := he
    have : R = 0 := by rw [hR, Int.mul_comm]; omega
    rw [this]
    refine VC.body Try.func46 rfl Try.ntmps46 Try.call46 (h.grows_refl) rfl ?_; conv => whnf
    repeat' (first | ((first | refine zs1 ?_ | refine zs2 ?_ | refine zs3 ?_ | refine zs4 ?_ | refine zs5 ?_ | refine zs6 [] ?_); conv => whnf) | ((first | apply zi1 | apply zi2 | apply zi3 | apply zi4 | apply zi5) <;> intro _ <;> conv => whnf) | (refine VAgg.intro (veqW _ _ _ _) ?_; conv => whnf))
    all_goals first | exact VOut.same rfl | (exfalso; simp at *; done) | trace_state
  · rw [hR]
    refine VC.body Try.func46 rfl Try.ntmps46 Try.call46 (h.grows_refl) rfl ?_; conv => whnf
    repeat' (first | ((first | refine zs1 ?_ | refine zs2 ?_ | refine zs3 ?_ | refine zs4 ?_ | refine zs5 ?_ | refine zs6 [] ?_); conv => whnf) | ((first | apply zi1 | apply zi2 | apply zi3 | apply zi4 | apply zi5) <;> intro _ <;> conv => whnf) | (refine VAgg.intro (veqW _ _ _ _) ?_; conv => whnf))
    all_goals first | exact VOut.same rfl | (exfalso; simp at *; omega) | trace_state
end Go.Proofs.Ytaodhdpopklipaa.Bt

open Go.Vm
namespace Go.Proofs.Ytaodhdpopklipaa.Bt
set_option maxRecDepth 20000
set_option maxHeartbeats 1000000
theorem blt_of {a b : Nat} (h : a < b) : Nat.blt a b = true := Nat.ble_eq_true_of_le h
end Go.Proofs.Ytaodhdpopklipaa.Bt

open Go.Vm
namespace Go.Vm
end Go.Vm
namespace Go.Proofs.Ytaodhdpopklipaa.Bt
set_option maxRecDepth 20000
set_option maxHeartbeats 4000000
def sAt (l : Lnd) (i : Nat) : Str := l.ss.getD i ⟨0, 0, 0, 0⟩
theorem sAt_eq {l : Lnd} {i : Nat} {s : Str} (h : l.ss[i]? = some s) : sAt l i = s := by simp [sAt, h]
end Go.Proofs.Ytaodhdpopklipaa.Bt

open Go.Vm
namespace Go.Vm
theorem VOut.setF {h : Hp} {loc : List Blk} {i : Id} {b0 : Blk} {l : List D} {rw : Bool} {r : V} {L : Nat} (hL : Nat.ble loc.length L = true) (hb : h.get i = some b0) (hr : ∀ ρ, r.ren ρ = r) : VOut h ⟨outW h.lift i (.flat rw l), loc⟩ r r (h.set i (.flat rw l)) := by
  have hd : ∀ p ∈ [(i, Blk.flat rw l)], h.get p.1 ≠ none := by
    intro p hp
    simp only [List.mem_cons, List.not_mem_nil, or_false] at hp
    subst hp; simp only; rw [hb]; simp
  have := VOut.upd (loc := loc) (r1 := r) (r := r) [(i, .flat rw l)] [] [] L hL hd (by simp) rfl (by intro k b hk; simp at hk) (fun σ x hx => by rw [hr]; exact hx) (outer := outW h.lift i (.flat rw l)) rfl
  have he : (h.sets [(i, Blk.flat rw l)]).pushes [] = h.set i (.flat rw l) := by simp [Hp.sets, Hp.pushes]
  rw [he] at this
  exact this
end Go.Vm
namespace Go.Proofs.Ytaodhdpopklipaa.Bt
set_option maxRecDepth 20000
set_option maxHeartbeats 2000000

theorem vc_isNaN (x : Int) (h : Hp) : VC Try.prog 70 [I x] h (B false) h := by
  refine VC.body Try.func70 rfl Try.ntmps70 Try.call70 (h.grows_refl) rfl ?_; conv => whnf
  repeat' (first | ((first | refine zs1 ?_ | refine zs2 ?_ | refine zs3 ?_ | refine zs4 ?_ | refine zs5 ?_ | refine zs6 [] ?_); conv => whnf) | ((first | apply zi1 | apply zi2 | apply zi3 | apply zi4 | apply zi5) <;> intro _ <;> conv => whnf))
  refine VOut.same ?_
  simp [V.ren]
def cmpI (a b : Int) : Int := if a < b then -1 else if b < a then 1 else 0
theorem vc_Compare (a b : Int) (h : Hp) : VC Try.prog 45 [I a, I b] h (I (cmpI a b)) h := by
  unfold cmpI
  refine VC.body Try.func45 rfl Try.ntmps45 Try.call45 (h.grows_refl) rfl ?_; conv => whnf
  repeat' (first | ((first | refine zs1 ?_ | refine zs2 ?_ | refine zs3 ?_ | refine zs4 ?_ | refine zs5 ?_ | refine zs6 [] ?_); conv => whnf) | ((first | apply zi1 | apply zi2 | apply zi3 | apply zi4 | apply zi5) <;> intro _ <;> conv => whnf) | (refine VCall.intro (vc_isNaN _ _) ?_; conv => whnf))
  · rename_i h1; rw [if_pos h1]; exact VOut.same rfl
  · rename_i h1 h2; rw [if_neg h1, if_pos h2]; exact VOut.same rfl
  · rename_i h1 h2; rw [if_neg h1, if_neg h2]; exact VOut.same rfl
/-! ### Insertion -/
def posS (q : Int → Bool) (out : List Int) : Nat → Nat
  | 0 => 0
  | j + 1 => if q (out.getD j 0) then posS q out j else j + 1
theorem posS_le (q : Int → Bool) (out : List Int) : ∀ j, posS q out j ≤ j
  | 0 => Nat.le_refl _
  | j + 1 => by
    rw [posS]; split
    · exact Nat.le_succ_of_le (posS_le q out j)
    · exact Nat.le_refl _
def insS (q : Int → Bool) (out : List Int) (x : Int) : List Int := out.take (posS q out out.length) ++ x :: out.drop (posS q out out.length)
theorem insS_len (q : Int → Bool) (out : List Int) (x : Int) : (insS q out x).length = out.length + 1 := by
  have := posS_le q out out.length
  simp [insS]; omega
def midS (pre : List Int) (x : Int) (rest : List Int) (j : Nat) : List Int := pre.take j ++ x :: (pre.drop j ++ rest)
theorem midS_len {pre : List Int} {x : Int} {rest : List Int} {j : Nat} (hj : j ≤ pre.length) : (midS pre x rest j).length = pre.length + 1 + rest.length := by simp [midS]; omega
theorem midS_at {pre : List Int} {x : Int} {rest : List Int} {j : Nat} (hj : j ≤ pre.length) : (midS pre x rest j)[j]? = some x := by
  unfold midS
  have : (pre.take j).length = j := by simp; omega
  rw [List.getElem?_append_right (by omega), this, Nat.sub_self]; rfl
theorem midS_at1 {pre : List Int} {x : Int} {rest : List Int} {j : Nat} (hj : j + 1 ≤ pre.length) : (midS pre x rest (j + 1))[j]? = some (pre.getD j 0) := by
  unfold midS
  have : (pre.take (j + 1)).length = j + 1 := by simp; omega
  rw [List.getElem?_append_left (by omega), List.getElem?_take, if_pos (by omega), List.getElem?_eq_getElem (by omega)]
  simp [List.getD_eq_getElem?_getD, List.getElem?_eq_getElem (show j < pre.length by omega)]
theorem midS_swap {pre : List Int} {x : Int} {rest : List Int} {j : Nat} (hj : j + 1 ≤ pre.length) : ((midS pre x rest (j + 1)).set (j + 1) (pre.getD j 0)).set j x = midS pre x rest j := by
  have hp : pre[j]? = some pre[j] := List.getElem?_eq_getElem (by omega)
  have hd : pre.getD j 0 = pre[j] := by simp [List.getD_eq_getElem?_getD, hp]
  have h1 : (pre.take (j + 1)).length = j + 1 := by simp; omega
  have h2 : (pre.take j).length = j := by simp; omega
  unfold midS
  rw [List.set_append_right _ _ (by omega), h1, Nat.sub_self, List.set_cons_zero, List.take_add_one, hp, Option.toList, List.append_assoc, List.set_append_right _ _ (by omega), h2, Nat.sub_self]
  simp only [List.singleton_append, List.set_cons_zero, hd]
  rw [List.drop_eq_getElem_cons (show j < pre.length by omega)]
  rfl
theorem midS_end {q : Int → Bool} {pre : List Int} {x : Int} {rest : List Int} : midS pre x rest (posS q pre pre.length) = insS q pre x ++ rest := by simp [midS, insS]
theorem midS_top {pre : List Int} {x : Int} {rest : List Int} : midS pre x rest pre.length = pre ++ x :: rest := by simp [midS]
def isGo (q : Int → Int → Bool) (l : List Int) : Nat → List Int
  | 0 => []
  | m + 1 => insS (fun y => q (l.getD m 0) y) (isGo q l m) (l.getD m 0)
def isrt (q : Int → Int → Bool) (l : List Int) : List Int := isGo q l l.length
theorem isGo_len (q : Int → Int → Bool) (l : List Int) : ∀ m, (isGo q l m).length = m
  | 0 => rfl
  | m + 1 => by rw [isGo, insS_len, isGo_len q l m]
theorem insS_mem {q : Int → Bool} {out : List Int} {x y : Int} : y ∈ insS q out x ↔ y = x ∨ y ∈ out := by
  unfold insS
  rw [List.mem_append, List.mem_cons]
  have : y ∈ out ↔ y ∈ out.take (posS q out out.length) ∨ y ∈ out.drop (posS q out out.length) := by
    rw [← List.mem_append, List.take_append_drop]
  rw [this]
  constructor
  · rintro (h | h | h)
    · exact .inr (.inl h)
    · exact .inl h
    · exact .inr (.inr h)
  · rintro (h | h | h)
    · exact .inr (.inl h)
    · exact .inl h
    · exact .inr (.inr h)
theorem isGo_mem {q : Int → Int → Bool} {l : List Int} : ∀ {m : Nat}, m ≤ l.length → ∀ y ∈ isGo q l m, y ∈ l
  | 0, _, y, h => by cases h
  | m + 1, hm, y, h => by
    rw [isGo] at h
    rcases insS_mem.1 h with rfl | h
    · have : l[m]? = some l[m] := List.getElem?_eq_getElem (by omega)
      rw [List.getD_eq_getElem?_getD, this]; exact List.getElem_mem _
    · exact isGo_mem (by omega) y h
theorem vc_isort (l : List Int) (q : Int → Int → Bool) (c : Int → Int → Int) (f : FuncId) (caps : List D) (i : Vm.Id) (h : Hp) (hb : h.get i = some (.flat true (l.flatMap encI))) (hn : l.length ≤ 4000000)
    (hc : ∀ a b, a ∈ l → b ∈ l → (∀ h, VC Try.prog f ([I a, I b] ++ D.vs caps) h (I (c a b)) h) ∧ (c a b < 0 ↔ q a b = true)) :
    VC Try.prog 74 [.gl i 1 l.length, I 0, I l.length, .func (.func f) [] (D.vs caps)] h (.tuple []) (h.set i (.flat true ((isrt q l).flatMap encI))) := by
  have hlift : h.lift i = some (.flat true (l.flatMap encI)) := get_out hb []
  refine VC.body Try.func74 rfl Try.ntmps74 Try.call74 (h.grows_set _ _) rfl ?_
  conv => whnf
  rw [rens_dvs]
  repeat (first | ((first | refine zs1 ?_ | refine zs2 ?_ | refine zs3 ?_ | refine zs4 ?_ | refine zs5 ?_ | refine zs6 [] ?_); conv => whnf))
  refine VCode.lpo (fun x : Nat × List Int => [(0, .gl (.out i) 1 l.length), (1, I 0), (2, I l.length), (3, .func (.func f) [] (D.vs caps)), (8, I x.1)]) (fun x => outW h.lift i (.flat true (x.2.flatMap encI))) (fun _ => []) (fun x => (x.1 ≤ l.length ∧ x.2 = isGo q l x.1 ++ l.drop x.1) ∨ (l = [] ∧ x = (1, []))) (fun x => l.length - x.1) (1, l) ?_ (outW_id hlift) ?_ ?_
  · rcases Nat.eq_zero_or_pos l.length with hz | hz
    · have := List.length_eq_zero_iff.1 hz
      subst this; exact .inr ⟨rfl, rfl⟩
    · left
      refine ⟨hz, ?_⟩
      cases l with
      | nil => cases hz
      | cons a r => simp [isGo, insS, posS]
  · conv => whnf
    refine Retell.turn ⟨[], 0, [], []⟩ (TurnOk.mk' _ _ [] [] (OutOk.outW (OutOk.lift _) rfl) rfl (by decide) zb trivial trivial rfl) zv zm
  · rintro ⟨m, w⟩ hm
    conv => whnf
    repeat (first | ((first | refine zs1 ?_ | refine zs2 ?_ | refine zs3 ?_ | refine zs4 ?_ | refine zs5 ?_ | refine zs6 [] ?_); conv => whnf))
    refine VIte.dec (fun h3 => ?_) (fun h3 => ?_)
    · dsimp only at h3
      obtain ⟨hm1, hw⟩ : m ≤ l.length ∧ w = isGo q l m ++ l.drop m := by
        rcases hm with h | ⟨h1, h2⟩
        · exact h
        · exfalso; subst h1; cases h2; simp at h3
      have hx : l[m]? = some l[m] := List.getElem?_eq_getElem (by omega)
      have hxm : l[m] ∈ l := List.getElem_mem _
      have hgd : l.getD m 0 = l[m] := by simp [List.getD_eq_getElem?_getD, hx]
      have hpl := isGo_len q l m
      have hpm := isGo_mem (q := q) (l := l) hm1
      have hnext : isGo q l (m + 1) = insS (fun y => q l[m] y) (isGo q l m) l[m] := by rw [isGo, hgd]
      rw [List.drop_eq_getElem_cons (by omega)] at hw
      generalize l[m] = x at hx hxm hw hnext
      generalize isGo q l m = pre at hw hpl hpm hnext
      generalize hrest : l.drop (m + 1) = rest at hw
      have hrl : rest.length = l.length - (m + 1) := by rw [← hrest]; simp
      subst hw
      conv => whnf
      repeat (first | ((first | refine zs1 ?_ | refine zs2 ?_ | refine zs3 ?_ | refine zs4 ?_ | refine zs5 ?_ | refine zs6 [] ?_); conv => whnf))
      refine VCode.lpo (fun j : Nat => [(0, .gl (.out i) 1 l.length), (1, I 0), (2, I l.length), (3, .func (.func f) [] (D.vs caps)), (8, I m), (9, I j)]) (fun j => outW h.lift i (.flat true ((midS pre x rest j).flatMap encI))) (fun _ => []) (fun j => j ≤ m ∧ posS (fun y => q x y) pre m = posS (fun y => q x y) pre j) (fun j => j) m ⟨Nat.le_refl _, rfl⟩ (by rw [← hpl, midS_top]) ?_ ?_
      · conv => whnf
        refine Retell.turn ⟨[], 0, [], []⟩ (TurnOk.mk' _ _ [] [] (OutOk.outW (OutOk.lift _) rfl) rfl (by decide) zb trivial trivial rfl) zv zm
      · rintro j ⟨hj, hpos⟩
        have fin : ∀ (_ : posS (fun y => q x y) pre j = j), midS pre x rest j = isGo q l (m + 1) ++ l.drop (m + 1) := fun hp => by
          rw [hnext, hrest, ← midS_end, hpl, hpos, hp]
        cases j with
        | zero =>
          conv => whnf
          repeat' (first | ((first | refine zs1 ?_ | refine zs2 ?_ | refine zs3 ?_ | refine zs4 ?_ | refine zs5 ?_ | refine zs6 [] ?_); conv => whnf) | ((first | apply zi1 | apply zi2 | apply zi3 | apply zi4 | apply zi5) <;> intro _ <;> conv => whnf))
          all_goals try (exfalso; omega)
          refine LEndO.intro (m + 1, isGo q l (m + 1) ++ l.drop (m + 1)) (.inl ⟨by dsimp only; omega, rfl⟩) (by dsimp only; omega) (by rw [fin rfl]) ?_
          conv => whnf
          refine Retell.turn ⟨[], 0, [], []⟩ (TurnOk.mk' _ _ [] [] (OutOk.outW (OutOk.lift _) rfl) rfl (by decide) zb trivial trivial rfl) zv zm
        | succ j =>
          have ha := midS_at (pre := pre) (x := x) (rest := rest) (j := j + 1) (by omega)
          have hb1 := midS_at1 (pre := pre) (x := x) (rest := rest) (j := j) (by omega)
          have hsw := midS_swap (pre := pre) (x := x) (rest := rest) (j := j) (by omega)
          have hps : posS (fun y => q x y) pre (j + 1) = if q x (pre.getD j 0) then posS (fun y => q x y) pre j else j + 1 := rfl
          have hym : pre.getD j 0 ∈ l := by
            have : pre[j]? = some pre[j] := List.getElem?_eq_getElem (by omega)
            rw [List.getD_eq_getElem?_getD, this]
            exact hpm _ (List.getElem_mem _)
          obtain ⟨hc1, hc2⟩ := hc x (pre.getD j 0) hxm hym
          have hlm := midS_len (pre := pre) (x := x) (rest := rest) (j := j + 1) (by omega)
          have hset : ((midS pre x rest (j + 1)).set (j + 1) (pre.getD j 0))[j]? = some (pre.getD j 0) := by rw [List.getElem?_set_ne (by omega)]; exact hb1
          generalize pre.getD j 0 = y at ha hb1 hsw hps hym hc1 hc2 hset
          generalize midS pre x rest (j + 1) = w at ha hb1 hsw hlm hset fin
          generalize c x y = r at hc1 hc2
          conv => whnf
          repeat' (first | ((first | refine zs1 ?_ | refine zs2 ?_ | refine zs3 ?_ | refine zs4 ?_ | refine zs5 ?_ | refine zs6 [] ?_); conv => whnf) | ((first | apply zi1 | apply zi2 | apply zi3 | apply zi4 | apply zi5) <;> intro _ <;> conv => whnf) | (refine VLd.recc encI_len (j + 1) 0 rfl rfl (outW_get _ _ _ _) ha (by decide) rfl (by simp only [Nat.zero_add, Nat.mul_one]; omega) ?_; conv => whnf) | (refine VLd.recc encI_len j 0 rfl rfl (outW_get _ _ _ _) hb1 (by decide) rfl (by simp only [Nat.zero_add, Nat.mul_one]; omega) ?_; conv => whnf) | (refine VCall.intro (hc1 _) ?_; conv => whnf))
          all_goals try (exfalso; omega)
          · rename_i hr
            rw [if_pos (hc2.1 hr)] at hps
            refine VMem.setRec encI_len (j + 1) 0 y rfl rfl (outW_get _ _ _ _) ha (by decide) rfl (by simp only [Nat.zero_add, Nat.mul_one]; omega) ?_
            conv => whnf
            repeat (first | ((first | refine zs1 ?_ | refine zs2 ?_ | refine zs3 ?_ | refine zs4 ?_ | refine zs5 ?_ | refine zs6 [] ?_); conv => whnf))
            refine VMem.setRec encI_len j 0 x rfl rfl (outW_get _ _ _ _) hset (by decide) rfl (by simp only [Nat.zero_add, Nat.mul_one]; omega) ?_
            conv => whnf
            repeat (first | ((first | refine zs1 ?_ | refine zs2 ?_ | refine zs3 ?_ | refine zs4 ?_ | refine zs5 ?_ | refine zs6 [] ?_); conv => whnf))
            refine LEndO.intro j ⟨by omega, by rw [hpos, hps]⟩ (by omega) (((outW_same (outW _ _ _) _ _ _).trans (outW_same _ _ _ _)).trans (by rw [hsw])) ?_
            conv => whnf
            refine Retell.turn ⟨[], 0, [], []⟩ (TurnOk.mk' _ _ [] [] (OutOk.outW (OutOk.lift _) rfl) rfl (by decide) zb trivial trivial rfl) zv zm
          · rename_i hr
            rw [if_neg (fun hq => hr (hc2.2 hq))] at hps
            refine LEndO.intro (m + 1, isGo q l (m + 1) ++ l.drop (m + 1)) (.inl ⟨by dsimp only; omega, rfl⟩) (by dsimp only; omega) (by rw [fin hps]) ?_
            conv => whnf
            refine Retell.turn ⟨[], 0, [], []⟩ (TurnOk.mk' _ _ [] [] (OutOk.outW (OutOk.lift _) rfl) rfl (by decide) zb trivial trivial rfl) zv zm
    · have hw : w = isrt q l := by
        rcases hm with ⟨h1, h2⟩ | ⟨h1, h2⟩
        · dsimp only at h1 h2 h3
          have : m = l.length := by omega
          rw [h2, this, List.drop_of_length_le (Nat.le_refl _), List.append_nil]; rfl
        · cases h2; subst h1; rfl
      subst hw
      conv => whnf
      repeat (first | ((first | refine zs1 ?_ | refine zs2 ?_ | refine zs3 ?_ | refine zs4 ?_ | refine zs5 ?_ | refine zs6 [] ?_); conv => whnf))
      exact VOut.setF (L := 0) rfl hb fun _ => rfl
theorem isrt_len (q : Int → Int → Bool) (l : List Int) : (isrt q l).length = l.length := isGo_len q l _
theorem vc_stable (l : List Int) (q : Int → Int → Bool) (c : Int → Int → Int) (f : FuncId) (caps : List D) (i : Vm.Id) (h : Hp) (hb : h.get i = some (.flat true (l.flatMap encI))) (hn : l.length ≤ 19)
    (hc : ∀ a b, a ∈ l → b ∈ l → (∀ h, VC Try.prog f ([I a, I b] ++ D.vs caps) h (I (c a b)) h) ∧ (c a b < 0 ↔ q a b = true)) :
    VC Try.prog 69 [.gl i 1 l.length, I l.length, .func (.func f) [] (D.vs caps)] h (.tuple []) (h.set i (.flat true ((isrt q l).flatMap encI))) := by
  have hs := fun (i : Vm.Id) (h : Hp) hh => vc_isort l q c f caps i h hh (by omega) hc
  refine VC.body Try.func69 rfl Try.ntmps69 Try.call69 (h.grows_set _ _) rfl ?_
  conv => whnf
  rw [rens_dvs]
  repeat (first | ((first | refine zs1 ?_ | refine zs2 ?_ | refine zs3 ?_ | refine zs4 ?_ | refine zs5 ?_ | refine zs6 [] ?_); conv => whnf))
  have hlift : h.lift i = some (.flat true (l.flatMap encI)) := get_out hb []
  refine VCode.lpo (fun _ : Unit => [(0, .gl (.out i) 1 l.length), (1, I l.length), (2, .func (.func f) [] (D.vs caps)), (6, I 20), (7, I 0), (8, I 20)]) (fun _ => h.lift) (fun _ => []) (fun _ => True) (fun _ => 0) () trivial rfl ?_ ?_
  · conv => whnf
    refine Retell.turn ⟨[], 0, [], []⟩ (TurnOk.mk' _ _ [] [] (OutOk.lift _) rfl (by decide) zb trivial trivial rfl) zv zm
  · rintro _ _
    conv => whnf
    repeat (first | ((first | refine zs1 ?_ | refine zs2 ?_ | refine zs3 ?_ | refine zs4 ?_ | refine zs5 ?_ | refine zs6 [] ?_); conv => whnf))
    refine VIte.dec (fun h3 => ?_) (fun h3 => ?_)
    · exfalso; omega
    · have h1 := hs (.out i) ⟨h.lift, []⟩ (get_out hb [])
      conv => whnf
      repeat' (first | ((first | refine zs1 ?_ | refine zs2 ?_ | refine zs3 ?_ | refine zs4 ?_ | refine zs5 ?_); conv => whnf) | ((first | apply zi1 | apply zi2 | apply zi3 | apply zi4 | apply zi5) <;> intro _ <;> conv => whnf) | (refine VCall.intro (h1) ?_; conv => whnf))
      refine VCode.lpo (fun _ : Unit => [(0, .gl (.out i) 1 l.length), (1, I l.length), (2, .func (.func f) [] (D.vs caps)), (6, I 20)]) (fun _ => outW h.lift i (.flat true ((isrt q l).flatMap encI))) (fun _ => []) (fun _ => True) (fun _ => 0) () trivial rfl ?_ ?_
      · conv => whnf
        refine Retell.turn ⟨[], 0, [], []⟩ (TurnOk.mk' _ _ [] [] (OutOk.outW (OutOk.lift _) rfl) rfl (by decide) zb trivial trivial rfl) zv zm
      · rintro _ _
        conv => whnf
        repeat (first | ((first | refine zs1 ?_ | refine zs2 ?_ | refine zs3 ?_ | refine zs4 ?_ | refine zs5 ?_ | refine zs6 [] ?_); conv => whnf))
        refine VIte.dec (fun h3 => ?_) (fun h3 => ?_)
        · exfalso; omega
        · conv => whnf
          exact VOut.setF (L := 0) rfl hb fun _ => rfl
theorem vc_sort (l : List Int) (q : Int → Int → Bool) (c : Int → Int → Int) (f : FuncId) (caps : List D) (i : Vm.Id) (h : Hp) (hb : h.get i = some (.flat true (l.flatMap encI))) (hn : l.length ≤ 19)
    (hc : ∀ a b, a ∈ l → b ∈ l → (∀ h, VC Try.prog f ([I a, I b] ++ D.vs caps) h (I (c a b)) h) ∧ (c a b < 0 ↔ q a b = true)) :
    VC Try.prog 43 [.gl i 1 l.length, .func (.func f) [] (D.vs caps)] h (.tuple []) (h.set i (.flat true ((isrt q l).flatMap encI))) := by
  have h1 := vc_stable l q c f caps (.out i) ⟨h.lift, []⟩ (get_out hb []) hn hc
  refine VC.body Try.func43 rfl Try.ntmps43 Try.call43 (h.grows_set _ _) rfl ?_
  conv => whnf
  rw [rens_dvs]
  repeat' (first | ((first | refine zs1 ?_ | refine zs2 ?_ | refine zs3 ?_ | refine zs4 ?_ | refine zs5 ?_); conv => whnf) | ((first | apply zi1 | apply zi2 | apply zi3 | apply zi4 | apply zi5) <;> intro _ <;> conv => whnf) | (refine VCall.intro (h1) ?_; conv => whnf))
  exact VOut.setF (L := 0) rfl hb fun _ => rfl
end Go.Proofs.Ytaodhdpopklipaa.Bt

open Go.Vm
namespace Go.Proofs.Ytaodhdpopklipaa.Bt
set_option maxRecDepth 20000
set_option maxHeartbeats 2000000

/-! ### The map of worths -/
abbrev AW := List (Int × Spn)
def esW (a : AW) : List (V × V) := a.map fun x => (I x.1, .agg [I x.2.lo, I x.2.hi])
def keysW (a : AW) : List D := a.map fun x => DI x.1
def valsW (a : AW) : List D := a.map fun x => .agg (encS x.2)
theorem esW_fst (a : AW) : (esW a).map (·.1) = (keysW a).map D.v := by simp only [esW, keysW, List.map_map]; rfl
theorem esW_snd (a : AW) : (esW a).map (·.2) = (valsW a).map D.v := by simp only [esW, valsW, List.map_map]; rfl
theorem esW_zip (a : AW) : (D.vs (keysW a)).zip (D.vs (valsW a)) = esW a := by
  rw [D.vs_eq, D.vs_eq, ← esW_fst, ← esW_snd]
  induction a with
  | nil => rfl
  | cons x a ih => simpa [esW] using ih
theorem esW_ren (a : AW) (ρ : Vm.Id → Vm.Id) : (Blk.map (esW a)).ren ρ = .map (esW a) := by
  unfold Blk.ren
  congr 1
  simp only [esW, List.map_map]
  rfl
theorem EsTo.esW {c : TCtx} (a : AW) : EsTo c (esW a) (keysW a) (valsW a) := ⟨by rw [esW_fst]; exact RowTo.dv c _, by rw [esW_snd]; exact RowTo.dv c _⟩
theorem top3 : eqTop Try.prog 3 = some Sh.int := by kernel_rfl
theorem veqI3 (x y : Int) : veqSh Sh.int (I x) (I y) = some (decide (x = y)) := by
  have : (x == y) = decide (x = y) := by rw [Bool.eq_iff_iff]; simp
  rw [← this]; rfl
def hasW (a : AW) (e : Int) : Bool := a.any fun x => decide (x.1 = e)
theorem foundW_none {a : AW} {e : Int} (h : hasW a e = false) : Vm.Found Sh.int (I e) (esW a) none := by
  intro j p hp
  simp only [esW, List.getElem?_map, Option.map_eq_some_iff] at hp
  obtain ⟨x, hx, rfl⟩ := hp
  simp only [veqI3]
  have : x ∈ a := List.mem_of_getElem? hx
  unfold hasW at h
  rw [List.any_eq_false] at h
  have := h x this
  simp only [decide_eq_true_eq] at this
  rw [decide_eq_false (fun e1 => this e1.symm)]
theorem foundW_some : ∀ {a : AW} {e : Int} {v : Spn}, (e, v) ∈ a → (∀ w, (e, w) ∈ a → w = v) → ∃ i, Vm.Found Sh.int (I e) (esW a) (some (i, .agg [I v.lo, I v.hi]))
  | [], e, v, h, _ => by cases h
  | x :: a, e, v, h, hu => by
    by_cases hx : x.1 = e
    · have : x.2 = v := hu x.2 (by rw [← hx]; simp)
      refine ⟨0, I x.1, by simp [esW, this], by rw [veqI3]; simp [hx], fun j p hj => by omega⟩
    · have h' : (e, v) ∈ a := by
        rcases List.mem_cons.1 h with rfl | h
        · exact absurd rfl hx
        · exact h
      obtain ⟨i, k0, h1, h2, h3⟩ := foundW_some h' fun w hw => hu w (List.mem_cons_of_mem _ hw)
      refine ⟨i + 1, k0, by simpa [esW] using h1, h2, fun j p hj hp => ?_⟩
      cases j with
      | zero =>
        simp only [esW, List.map_cons, List.getElem?_cons_zero, Option.some.injEq] at hp
        subst hp
        rw [veqI3, decide_eq_false (fun e1 => hx e1.symm)]
      | succ j => exact h3 j p (by omega) (by simpa [esW] using hp)
theorem VMem.newW {a : AW} {e : Int} {v : Spn} {h : Hp} {i : Vm.Id} {K : V → Hp → Prop} (hb : h.get i = some (.map (esW a))) (hf : hasW a e = false) (hK : K .undef (h.set i (.map (esW (a ++ [(e, v)]))))) : VMem Try.prog (opMapUpdate 109) [.map i, I e, .agg [I v.lo, I v.hi]] h K := by
  have : esW (a ++ [(e, v)]) = esW a ++ [(I e, .agg [I v.lo, I v.hi])] := by simp [esW]
  rw [this] at hK
  exact VMem.intro (does_mapNew (tiOf_ok _) (t := 109) rfl rfl top3 (by rw [veqI3]) (foundW_none hf) hb) hK
theorem look_esW {a : AW} {e : Int} {v : Spn} (h : (e, v) ∈ a) (hu : ∀ w, (e, w) ∈ a → w = v) : Look Try.prog (tiOf Try.prog) 109 false (I e) ((D.vs (keysW a)).zip (D.vs (valsW a))) (.agg [I v.lo, I v.hi]) := by
  rw [esW_zip]
  obtain ⟨i, hi⟩ := foundW_some h hu
  exact ⟨_, 3, 80, _, Sh.int, true, some (i, .agg [I v.lo, I v.hi]), rfl, rfl, top3, by rw [veqI3]; simp, hi, rfl⟩
def freeQ (l : Lnd) (i : Nat) : Bool := isFree (sAt l i)
def frL (l : Lnd) (k : Nat) : List Int := selS (freeQ l) k
def wOf (l : Lnd) (i : Int) : Spn := ⟨(sAt l i.toNat).no, (sAt l i.toNat).so⟩
def wMap (l : Lnd) (k : Nat) : AW := (frL l k).map fun i => (i, wOf l i)
def ahB (l : Lnd) (i j : Int) : Bool := fst2 (sAt l i.toNat) (sAt l j.toNat)
def ordL (l : Lnd) : List Int := isrt (ahB l) (frL l l.ss.length)
theorem mem_selS {q : Nat → Bool} {x : Int} : ∀ {k : Nat}, x ∈ selS q k ↔ ∃ j : Nat, j < k ∧ x = j ∧ q j = true
  | 0 => by simp [selS]
  | k + 1 => by
    rw [selS]
    split
    · rename_i h
      rw [List.mem_append, mem_selS, List.mem_singleton]
      constructor
      · rintro (⟨j, h1, h2, h3⟩ | rfl)
        · exact ⟨j, by omega, h2, h3⟩
        · exact ⟨k, by omega, rfl, h⟩
      · rintro ⟨j, h1, h2, h3⟩
        rcases Nat.lt_or_ge j k with h4 | h4
        · exact .inl ⟨j, h4, h2, h3⟩
        · right; rw [h2, show j = k by omega]
    · rename_i h
      rw [mem_selS]
      constructor
      · rintro ⟨j, h1, h2, h3⟩; exact ⟨j, by omega, h2, h3⟩
      · rintro ⟨j, h1, h2, h3⟩
        refine ⟨j, ?_, h2, h3⟩
        rcases Nat.lt_or_ge j k with h4 | h4
        · exact h4
        · exact absurd (by rw [← show j = k by omega]; exact h3) h
theorem wMap_mem {l : Lnd} {k : Nat} {i : Int} (h : i ∈ frL l k) : (i, wOf l i) ∈ wMap l k ∧ ∀ w, (i, w) ∈ wMap l k → w = wOf l i := by
  refine ⟨List.mem_map.2 ⟨i, h, rfl⟩, fun w hw => ?_⟩
  obtain ⟨j, _, hj⟩ := List.mem_map.1 hw
  simp only [Prod.mk.injEq] at hj
  rw [← hj.2, hj.1]
theorem wMap_has {l : Lnd} {k : Nat} : hasW (wMap l k) (k : Int) = false := by
  unfold hasW
  rw [List.any_eq_false]
  intro x hx
  obtain ⟨j, hj, rfl⟩ := List.mem_map.1 hx
  obtain ⟨m, h1, h2, _⟩ := mem_selS.1 hj
  simp only [decide_eq_true_eq]; omega
theorem vc_cmp (l : Lnd) (o : Ok l) (a b : Int) (h : Hp) (ha : a ∈ frL l l.ss.length) (hb : b ∈ frL l l.ss.length) :
    VC Try.prog 44 [I a, I b, .fp [.mp (keysW (wMap l l.ss.length)) (valsW (wMap l l.ss.length))]] h (I (cmpI ((wOf l b).lo * (wOf l a).hi - (wOf l b).hi * (wOf l a).lo) 0)) h := by
  obtain ⟨a1, a2⟩ := wMap_mem ha
  obtain ⟨b1, b2⟩ := wMap_mem hb
  have hA := look_esW a1 a2
  have hB := look_esW b1 b2
  have ra : (1 ≤ (wOf l a).lo ∧ (wOf l a).lo ≤ 1000) ∧ 1 ≤ (wOf l a).hi ∧ (wOf l a).hi ≤ 1000 := by
    obtain ⟨m, h1, rfl, _⟩ := mem_selS.1 ha
    have hs : l.ss[m]? = some l.ss[m] := List.getElem?_eq_getElem h1
    have := o.ss _ (List.getElem_mem h1)
    unfold wOf; rw [Int.toNat_natCast, sAt_eq hs]; exact ⟨this.no, this.so⟩
  have rb : (1 ≤ (wOf l b).lo ∧ (wOf l b).lo ≤ 1000) ∧ 1 ≤ (wOf l b).hi ∧ (wOf l b).hi ≤ 1000 := by
    obtain ⟨m, h1, rfl, _⟩ := mem_selS.1 hb
    have hs : l.ss[m]? = some l.ss[m] := List.getElem?_eq_getElem h1
    have := o.ss _ (List.getElem_mem h1)
    unfold wOf; rw [Int.toNat_natCast, sAt_eq hs]; exact ⟨this.no, this.so⟩
  generalize wOf l a = A at hA ra
  generalize wOf l b = B' at hB rb
  have ca := fun h => vc_ahead B'.lo B'.hi A.lo A.hi h (by omega) (by omega) (by omega) (by omega)
  refine VC.body Try.func44 rfl Try.ntmps44 Try.call44 (h.grows_refl) rfl ?_; conv => whnf
  repeat' (first | ((first | refine zs1 ?_ | refine zs2 ?_ | refine zs3 ?_ | refine zs4 ?_ | refine zs5 ?_ | refine zs6 [] ?_); conv => whnf) | ((first | apply zi1 | apply zi2 | apply zi3 | apply zi4 | apply zi5) <;> intro _ <;> conv => whnf) | (refine VLookF.intro hA ?_; conv => whnf) | (refine VLookF.intro hB ?_; conv => whnf) | (refine VCall.intro (ca _) ?_; conv => whnf) | (refine VCall.intro (vc_Compare _ _ _) ?_; conv => whnf))
  exact VOut.same rfl
end Go.Proofs.Ytaodhdpopklipaa.Bt

open Go.Vm
namespace Go.Proofs.Ytaodhdpopklipaa.Bt
set_option maxRecDepth 20000
set_option maxHeartbeats 4000000

structure OJ (o : Vm.Id → Option Blk) (a : AW) (n : List Int) (g : Hp) : Prop where
  o : g.outer = o
  c : g.get (.loc 0) = some (.cells true [.map (.loc 1)])
  mp : g.get (.loc 1) = some (.map (esW a))
  li : ∃ m, (m = 3 ∨ 6 ≤ m) ∧ g.get (.loc 2) = some (.cells true [.gl (.loc m) 1 n.length]) ∧ g.get (.loc m) = some (.flat true (n.flatMap encI))
  mar : g.get (.loc 4) = some .mark
theorem updW_ok {g : Hp} {m : Nat} {a2 b2 : AW} {n2 : List Int} {b : Blk} (jb : g.get (.loc 2) = some (.cells true [.gl (.loc m) 1 n2.length])) (jm : g.get (.loc 1) = some (.map (esW a2))) (jl : g.get (.loc m) = some (.flat true (n2.flatMap encI))) :
    ∀ p ∈ [(Vm.Id.loc 1, Blk.map (esW b2)), (.loc m, .dead), (.loc 2, b)], g.get p.1 ≠ none := by
  intro p hp
  simp only [List.mem_cons, List.not_mem_nil, or_false] at hp
  rcases hp with rfl | rfl | rfl <;> simp only
  · rw [jm]; simp
  · rw [jl]; simp
  · rw [jb]; simp
theorem OJ.step {o : Vm.Id → Option Blk} {a2 : AW} {n2 : List Int} {e : Int} {v : Spn} {g : Hp} {m : Nat} (jo : g.outer = o) (jc : g.get (.loc 0) = some (.cells true [.map (.loc 1)])) (jm : g.get (.loc 1) = some (.map (esW a2)))
    (jb : g.get (.loc 2) = some (.cells true [.gl (.loc m) 1 n2.length])) (jl : g.get (.loc m) = some (.flat true (n2.flatMap encI))) (jk : g.get (.loc 4) = some .mark) (hm : m = 3 ∨ 6 ≤ m) {b5 : Blk} (j5 : g.get (.loc 5) = some b5) :
    g.grows ((g.sets [(.loc 1, .map (esW (a2 ++ [(e, v)]))), (.loc m, .dead), (.loc 2, .cells true [.gl g.fresh 1 (n2.length + 1)])]).pushes [.flat true ((n2 ++ [e]).flatMap encI)]) ∧
    OJ o (a2 ++ [(e, v)]) (n2 ++ [e]) ((g.sets [(.loc 1, .map (esW (a2 ++ [(e, v)]))), (.loc m, .dead), (.loc 2, .cells true [.gl g.fresh 1 (n2.length + 1)])]).pushes [.flat true ((n2 ++ [e]).flatMap encI)]) ∧
    ∀ b, g.get (.loc 5) = some b → ((g.sets [(.loc 1, .map (esW (a2 ++ [(e, v)]))), (.loc m, .dead), (.loc 2, .cells true [.gl g.fresh 1 (n2.length + 1)])]).pushes [.flat true ((n2 ++ [e]).flatMap encI)]).get (.loc 5) = some b := by
  obtain ⟨go, gl⟩ := g
  simp only [Hp.get] at jc jm jb jl jk j5
  have l5 := (List.getElem?_eq_some_iff.1 j5).1
  have l0 := (List.getElem?_eq_some_iff.1 jc).1
  have l1 := (List.getElem?_eq_some_iff.1 jm).1
  have l2 := (List.getElem?_eq_some_iff.1 jb).1
  have l4 := (List.getElem?_eq_some_iff.1 jk).1
  have key : ∀ x, x < gl.length → x ≠ 1 → x ≠ m → x ≠ 2 → ∀ (A B C N : Blk), ((((gl.set 1 A).set m B).set 2 C) ++ [N])[x]? = gl[x]? := by
    intro x hx h1 h2 h3 A B C N
    rw [List.getElem?_append_left (by simpa using hx), List.getElem?_set_ne (Ne.symm h3), List.getElem?_set_ne (Ne.symm h2), List.getElem?_set_ne (Ne.symm h1)]
  refine ⟨Hp.grows_sets (updW_ok (g := ⟨go, gl⟩) jb jm jl), ⟨jo, ?_, ?_, ⟨gl.length, .inr (by omega), ?_, ?_⟩, ?_⟩, fun b hb => ?_⟩
  · show (_ ++ _)[_]? = _
    exact (key 0 l0 (by omega) (by omega) (by omega) _ _ _ _).trans jc
  · show ((((gl.set 1 _).set m _).set 2 _) ++ [_])[1]? = _
    rw [List.getElem?_append_left (by simpa using l1), List.getElem?_set_ne (show (2 : Nat) ≠ 1 by omega), List.getElem?_set_ne (show m ≠ 1 by omega), List.getElem?_set_self l1]
  · show ((((gl.set 1 _).set m _).set 2 _) ++ [_])[2]? = _
    rw [List.getElem?_append_left (by simpa using l2), List.getElem?_set_self (by simpa using l2)]
    simp [Hp.fresh]
  · show ((((gl.set 1 _).set m _).set 2 _) ++ [_])[gl.length]? = _
    rw [List.getElem?_append_right (by simp)]
    simp
  · show (_ ++ _)[_]? = _
    exact (key 4 l4 (by omega) (by omega) (by omega) _ _ _ _).trans jk
  · have hb : gl[5]? = some b := hb
    show (_ ++ _)[_]? = _
    exact (key 5 (List.getElem?_eq_some_iff.1 hb).1 (by omega) (by omega) (by omega) _ _ _ _).trans hb
theorem outer_fix {o : Vm.Id → Option Blk} {iy i1 i2 i3 : Vm.Id} {b0 b b1 b2 b3 : Blk} (h : o iy = some b) (n1 : iy ≠ i1) (n2 : iy ≠ i2) (n3 : iy ≠ i3) : outW (outW (outW (outW (outW o iy b0) i1 b1) i2 b2) i3 b3) iy b = outW (outW (outW o i1 b1) i2 b2) i3 b3 := by
  funext j
  unfold outW
  by_cases e : j = iy
  · subst e; rw [if_pos rfl, if_neg n3, if_neg n2, if_neg n1, h]
  · rw [if_neg e, if_neg e]
theorem cmpI_neg {x : Int} : cmpI x 0 < 0 ↔ x < 0 := by unfold cmpI; omega
theorem ahB_iff {l : Lnd} {a b : Int} : ahB l a b = true ↔ (wOf l b).lo * (wOf l a).hi - (wOf l b).hi * (wOf l a).lo < 0 := by
  unfold ahB fst2 wOf
  dsimp only
  rw [decide_eq_true_eq, Int.mul_comm (sAt l b.toNat).no, Int.mul_comm (sAt l b.toNat).so]
  omega
theorem vc_order (l : Lnd) (h : Hp) (o : Ok l) : VC Try.prog 22 [.fp (encN l)] h (ints (ordL l)) h := by
  have hn := o.n
  have hfl := selS_len (freeQ l) l.ss.length
  refine VC.body Try.func22 rfl Try.ntmps22 Try.call22 (h.grows_refl) rfl ?_; conv => whnf
  repeat' (first | ((first | refine zs1 ?_ | refine zs2 ?_ | refine zs3 ?_ | refine zs4 ?_ | refine zs5 ?_ | refine zs6 [] ?_); conv => whnf) | ((first | apply zi1 | apply zi2 | apply zi3 | apply zi4 | apply zi5) <;> intro _ <;> conv => whnf) | (refine VCall.intro (vc_free l _) ?_; conv => whnf))
  refine VCode.tell [(3, .ptr (.loc 2) 0), (4, .ptr (.loc 0) 0), (9, vFree l)] [.cells true [.map (.loc 1)], .map [], .cells true [.gl (.loc 3) 1 0], .flat true []] (marks' := []) ?_ ?_
  · conv => whnf
    refine Retell.turn ⟨[2, 1, 0, 3], 3, [], []⟩ (TurnOk.mk' _ _ [] [] (OutOk.lift _) rfl (by decide) (BTos.cells rfl rfl rfl zv (BTos.map rfl rfl (RowTo.nil _) (RowTo.nil _) (BTos.cells rfl rfl rfl zv (BTos.new rfl BTos.nil)))) trivial trivial rfl) zv zm
  · conv => whnf
    refine VCode.iterN l.ss.length (frY l) (fun k g => OJ h.lift (wMap l k) (frL l k) g) (fun _ _ => False) _ (.loc 5) rfl (iter_free l o) rfl rfl ⟨rfl, rfl, rfl, ⟨3, .inl rfl, rfl, rfl⟩, rfl⟩ ?_ ?_ ?_ ?_
    · rintro k g hk hy hJ
      have hs : l.ss[k]? = some l.ss[k] := List.getElem?_eq_getElem hk
      rw [frY_eq hs] at hy
      have hf : freeQ l k = false := by
        unfold freeQ
        rw [sAt_eq hs]
        cases hf : isFree l.ss[k]
        · rfl
        · rw [hf] at hy; cases hy
      have e1 : frL l (k + 1) = frL l k := by unfold frL; rw [selS, if_neg (by rw [hf]; decide)]
      unfold wMap at hJ ⊢
      rw [e1]; exact hJ
    · rintro k g vs hk hy hJ hlp
      have hs : l.ss[k]? = some l.ss[k] := List.getElem?_eq_getElem hk
      rw [frY_eq hs] at hy
      have es := sAt_eq hs
      have q1 := o.ss _ (List.getElem_mem hk)
      generalize l.ss[k] = s at hs hy es q1
      cases hft : isFree s
      · rw [hft] at hy; cases hy
      · rw [hft] at hy
        cases hy
        have hf : freeQ l k = true := by unfold freeQ; rw [es, hft]
        have e1 : frL l (k + 1) = frL l k ++ [(k : Int)] := by unfold frL; rw [selS, if_pos hf]
        have e2 : wMap l (k + 1) = wMap l k ++ [((k : Int), ⟨s.no, s.so⟩)] := by
          unfold wMap; rw [e1, List.map_append, List.map_cons, List.map_nil]; unfold wOf; rw [Int.toNat_natCast, es]
        have hh := wMap_has (l := l) (k := k)
        have hnl := selS_len (freeQ l) k
        have e3 : frL l k = selS (freeQ l) k := rfl
        rw [← e3] at hnl
        rw [e1, e2]
        generalize wMap l k = a2 at hJ hh
        generalize frL l k = n2 at hJ hnl
        obtain ⟨jo, jc, jm, ⟨m, hm, jb, jl⟩, jk⟩ := hJ
        have hm1 : Vm.Id.loc m ≠ .loc 1 := by intro h0; injection h0; omega
        have hm2 : Vm.Id.loc 2 ≠ .loc m := by intro h0; injection h0; omega
        have hm5 : Vm.Id.loc m ≠ .loc 5 := by intro h0; injection h0; omega
        have hm5' : Vm.Id.loc 5 ≠ .loc m := fun h0 => hm5 h0.symm
        obtain ⟨s1, s2, s3⟩ := OJ.step (e := (k : Int)) (v := ⟨s.no, s.so⟩) jo jc jm jb jl jk hm hlp
        refine Rnd.go hlp _ (s3 _ hlp) ?_ s2
        refine VRound.vy' hlp rfl rfl rfl s1 fun l0 => ?_
        refine VRound.tell [(3, .ptr (.out (.loc 2)) 0), (4, .ptr (.out (.loc 0)) 0), (10, I k), (11, aggT s)] ?_ ?_
        · conv => whnf
          refine Retell.turn ⟨[], 0, [], []⟩ (TurnOk.mk' _ _ [] [] (OutOk.lift _) rfl (by decide) zb trivial trivial rfl) zv zm
        · conv => whnf
          repeat (first | ((first | refine zs1 ?_ | refine zs2 ?_ | refine zs3 ?_ | refine zs4 ?_ | refine zs5 ?_ | refine zs6 [] ?_); conv => whnf))
          refine VBegin.intro (get_out hlp _) rfl ?_
          conv => whnf
          refine VDraw.go [(0, 3)] (by kernel_rfl) (by kernel_rfl) ?_
          conv => whnf
          refine VLd.cell rfl rfl (get_setO (by decide) jc _) rfl ?_
          conv => whnf
          repeat' (first | ((first | refine zs1 ?_ | refine zs2 ?_ | refine zs3 ?_ | refine zs4 ?_ | refine zs5 ?_); conv => whnf) | ((first | apply zi1 | apply zi2 | apply zi3 | apply zi4 | apply zi5) <;> intro _ <;> conv => whnf) | (refine VCall.intro (vc_worth s _) ?_; conv => whnf))
          refine VMem.newW (a := a2) (e := (k : Int)) (v := ⟨s.no, s.so⟩) ((get_setO (by decide) jm _).trans (by rw [esW_ren])) hh ?_
          conv => whnf
          repeat' (first | ((first | refine zs1 ?_ | refine zs2 ?_ | refine zs3 ?_ | refine zs4 ?_ | refine zs5 ?_); conv => whnf) | ((first | apply zi1 | apply zi2 | apply zi3 | apply zi4 | apply zi5) <;> intro _ <;> conv => whnf))
          refine VLd.cell rfl rfl (get_outNe (by decide) (get_setO (by decide) jb _)) rfl ?_
          conv => whnf
          repeat (first | ((first | refine zs1 ?_ | refine zs2 ?_ | refine zs3 ?_ | refine zs4 ?_ | refine zs5 ?_ | refine zs6 [] ?_); conv => whnf))
          refine VMem.app1B (α := Int) (l := n2) (k : Int) encI_len rfl (get_outNe hm1 (get_setO hm5 jl _)) rfl rfl rfl (by omega) ?_
          conv => whnf
          repeat (first | ((first | refine zs1 ?_ | refine zs2 ?_ | refine zs3 ?_ | refine zs4 ?_ | refine zs5 ?_ | refine zs6 [] ?_); conv => whnf))
          refine VMem.st1 rfl rfl rfl (b := .cells true [.gl (.out (.loc m)) 1 n2.length]) (get_outNe hm2 (get_outNe (by decide) (get_setO (by decide) jb _))) rfl ?_
          conv => whnf
          refine RFin.on (get_outNe (by decide) (get_outNe hm5' (get_outNe (by decide) (outW_get _ _ _ _)))) ?_
          refine VOut.upd [(.loc 1, .map (esW (a2 ++ [((k : Int), ⟨s.no, s.so⟩)]))), (.loc m, .dead), (.loc 2, .cells true [.gl g.fresh 1 (n2.length + 1)])] [.flat true ((n2 ++ ([(k : Int)] : List Int)).flatMap encI)] [2] 3 ?_ (updW_ok jb jm jl) ?_ ?_ ?_ ?_ ?_
          · rfl
          · decide
          · rfl
          · intro k b hk
            cases k with
            | zero => rw [List.getElem?_cons_zero, Option.some.injEq] at hk; subst hk; exact ⟨2, rfl, rfl⟩
            | succ k => simp at hk
          · intro σ x hx; exact hx
          · have e1 : (Blk.cells true [V.gl g.fresh 1 (n2.length + 1)]).ren (backR g.loc.length [2] 3) = .cells true [.gl (.loc 2) 1 (n2.length + 1)] := by simp [Blk.ren, V.ren, backR, Hp.fresh]
            simp only [List.map_cons, List.map_nil, e1, esW_ren]
            exact outer_fix (get_out hlp []) (by decide) hm5' (by decide)
    · rintro g hJ hlp
      have hs := fun (i : Vm.Id) (h : Hp) hh => vc_sort (frL l l.ss.length) (ahB l) (fun a b => cmpI ((wOf l b).lo * (wOf l a).hi - (wOf l b).hi * (wOf l a).lo) 0) 44 [.pt [.mp (keysW (wMap l l.ss.length)) (valsW (wMap l l.ss.length))]] i h hh (by show (selS _ _).length ≤ 19; omega)
        (fun a b ha hb => ⟨fun h => vc_cmp l o a b h ha hb, (cmpI_neg (x := (wOf l b).lo * (wOf l a).hi - (wOf l b).hi * (wOf l a).lo)).trans ahB_iff.symm⟩)
      have hol : (ordL l).length = (frL l l.ss.length).length := isrt_len _ _
      have e : isrt (ahB l) (frL l l.ss.length) = ordL l := rfl
      rw [e] at hs
      generalize wMap l l.ss.length = a2 at hJ hs
      generalize frL l l.ss.length = n2 at hJ hs hol
      obtain ⟨go, gl⟩ := g
      obtain ⟨jo, jc, jm, ⟨m, hm, jb, jl⟩, jk⟩ := hJ
      dsimp only at jo
      subst jo
      simp only [Hp.get] at jc jm jb jl jk
      have l0 := (List.getElem?_eq_some_iff.1 jc).1
      have l1 := (List.getElem?_eq_some_iff.1 jm).1
      have l2 := (List.getElem?_eq_some_iff.1 jb).1
      have lm := (List.getElem?_eq_some_iff.1 jl).1
      have key : ∀ (x : Nat) (A : Blk), x ≠ 5 → (gl.set 5 A)[x]? = gl[x]? := fun x A hx => List.getElem?_set_ne (Ne.symm hx)
      refine Told.mk [(3, .ptr (.loc 0) 0), (4, .fp [.mp (keysW a2) (valsW a2)])] [.cells true [.gl (.loc 1) 1 n2.length], .flat true (n2.flatMap encI)] (marks' := []) ?_ ?_
      · conv => whnf
        have hmn : ([2, m] : List Nat).Nodup := by simp; omega
        have hm4 : 4 ∉ ([2, m] : List Nat) := by simp; omega
        have ho : outsOk [(0, [D.mp (keysW a2) (valsW a2)])] [(1, keysW a2, valsW a2)] [2, m] [.cells true [.gl (.loc 1) 1 n2.length], .flat true (n2.flatMap encI)] = true := by
          have h9 : ∀ m' : Nat, outsOk [(0, [D.mp (keysW a2) (valsW a2)])] [(1, keysW a2, valsW a2)] [2, m' + 2] [.cells true [.gl (.loc 1) 1 n2.length], .flat true (n2.flatMap encI)] = true := fun _ => rfl
          have := h9 (m - 2)
          rw [show m - 2 + 2 = m by omega] at this
          exact this
        refine Retell.turn ⟨[2, m], gl.length, [(0, [.mp (keysW a2) (valsW a2)])], [(1, keysW a2, valsW a2)]⟩ (TurnOk.mk' _ _ [(0, [.mp (keysW a2) (valsW a2)])] [(1, keysW a2, valsW a2)] (OutOk.lift _) (Nat.ble_eq_true_of_le (by simp)) hmn
          (BTos.cells (blt_of l2) ((key 2 _ (by omega)).trans jb) rfl zv (BTos.flat (blt_of lm) ((key m _ (by omega)).trans jl) rfl BTos.nil))
          (FzAll.row ((key 0 _ (by omega)).trans jc) rfl (RowTo.vtos (VTos.cons (VTo.fmMap rfl) VTos.nil)) FzAll.nil) ⟨⟨esW a2, ((key 1 _ (by omega)).trans jm), EsTo.esW a2⟩, trivial⟩ ho) zv
          (MkTo.drop hm4 ((key 4 _ (by omega)).trans jk) MkTo.nil)
      · conv => whnf
        repeat' (first | ((first | refine zs1 ?_ | refine zs2 ?_ | refine zs3 ?_ | refine zs4 ?_ | refine zs5 ?_); conv => whnf) | ((first | apply zi1 | apply zi2 | apply zi3 | apply zi4 | apply zi5) <;> intro _ <;> conv => whnf) | (refine VCall.intro (hs _ _ rfl) ?_; conv => whnf))
        rw [← hol]
        refine VOut.data 2 [(1, (ordL l).flatMap encI)] [] rfl zf (by exact FmAll.nil) zv
    · rintro e g _ hF
      exact hF.elim
end Go.Proofs.Ytaodhdpopklipaa.Bt

open Go.Vm
namespace Go.Proofs.Ytaodhdpopklipaa.Bt
set_option maxRecDepth 20000
set_option maxHeartbeats 4000000
/-! ### Exchanges by order -/
def prt (l : Lnd) (f : List Int) (c n w : Int) (i : Nat) : Int := if (i : Int) = c then n else if (i : Int) ∈ f then w else bif freeQ l i then 0 else (1 - (sAt l i).ow) * w
def exL (l : Lnd) (f : List Int) (c n w : Int) : List Int := (List.range l.ss.length).map (prt l f c n w)
theorem exL_len (l : Lnd) (f : List Int) (c n w : Int) : (exL l f c n w).length = l.ss.length := by simp [exL]
theorem exL_at {l : Lnd} {f : List Int} {c n w : Int} {i : Nat} (h : i < l.ss.length) : (exL l f c n w)[i]? = some (prt l f c n w i) := by simp [exL, h]
theorem exL_ext {l : Lnd} {f : List Int} {c n w : Int} {L : List Int} (hl : L.length = l.ss.length) (h : ∀ j, j < l.ss.length → L[j]? = some (prt l f c n w j)) : L = exL l f c n w := by
  apply List.ext_getElem?
  intro j
  rcases Nat.lt_or_ge j l.ss.length with hj | hj
  · rw [h j hj, exL_at hj]
  · rw [List.getElem?_eq_none (by rw [hl]; exact hj), List.getElem?_eq_none (by rw [exL_len]; exact hj)]
theorem exL_set {l : Lnd} {f : List Int} {n w : Int} {i : Nat} (h : i < l.ss.length) : (exL l f (-1) n w).set i w = exL l (f ++ [(i : Int)]) (-1) n w := by
  refine exL_ext (by rw [List.length_set, exL_len]) fun j hj => ?_
  have hj1 : ¬ ((j : Int) = -1) := by omega
  rw [List.getElem?_set, exL_len, exL_at hj]
  unfold prt
  rw [if_neg hj1, if_neg hj1]
  by_cases e : i = j
  · subst e; rw [if_pos rfl, if_pos hj, if_pos (by simp)]
  · have : (j : Int) ∈ f ++ [(i : Int)] ↔ (j : Int) ∈ f := by simp; omega
    rw [if_neg e]
    simp only [this]
theorem exL_cut {l : Lnd} {f : List Int} {n m w : Int} {i : Nat} (h : i < l.ss.length) : (exL l f (-1) m w).set i n = exL l f i n w := by
  refine exL_ext (by rw [List.length_set, exL_len]) fun j hj => ?_
  have hj1 : ¬ ((j : Int) = -1) := by omega
  rw [List.getElem?_set, exL_len, exL_at hj]
  unfold prt
  rw [if_neg hj1]
  by_cases e : i = j
  · subst e; rw [if_pos rfl, if_pos hj, if_pos rfl]
  · have hji : ¬ ((j : Int) = (i : Int)) := by omega
    rw [if_neg e, if_neg hji]
theorem exL_irr (l : Lnd) (f : List Int) (n m w : Int) : exL l f (-1) n w = exL l f (-1) m w := by
  unfold exL
  refine List.map_congr_left fun i _ => ?_
  have hi : ¬ ((i : Int) = -1) := by omega
  unfold prt
  rw [if_neg hi, if_neg hi]
def mixL (A B : List Int) (k : Nat) : List Int := A.take k ++ B.drop k
theorem mixL_at {A B : List Int} {k : Nat} (hAB : A.length = B.length) (hk : k < B.length) : (mixL A B k)[k]? = B[k]? := by
  unfold mixL
  have : (A.take k).length = k := by simp; omega
  rw [List.getElem?_append_right (by omega), this, Nat.sub_self, List.getElem?_drop]; simp
theorem mixL_set {A B : List Int} {k : Nat} {a : Int} (hAB : A.length = B.length) (ha : A[k]? = some a) : (mixL A B k).set k a = mixL A B (k + 1) := by
  obtain ⟨hlt, e⟩ := List.getElem?_eq_some_iff.1 ha
  unfold mixL
  have h1 : (A.take k).length = k := by simp; omega
  rw [List.set_append_right _ _ (by omega), h1, Nat.sub_self, List.drop_eq_getElem_cons (by omega : k < B.length), List.set_cons_zero, List.take_add_one, ha]
  simp
theorem mixL_len {A B : List Int} {k : Nat} (hAB : A.length = B.length) (hk : k ≤ B.length) : (mixL A B k).length = B.length := by unfold mixL; simp; omega
theorem tmod_nat (a b : Nat) : (a : Int).tmod b = ((a % b : Nat) : Int) := by
  rw [Int.tmod_eq_emod_of_nonneg (by omega)]; rfl
theorem tdiv_nat (a b : Nat) : (a : Int).tdiv b = ((a / b : Nat) : Int) := by
  rw [Int.tdiv_eq_ediv_of_nonneg (by omega)]; rfl
theorem vc_given (l : Lnd) (f : List Int) (c : Int) (n w : Nat) (h : Hp) (o : Ok l) (hf : ∀ x ∈ f, ∃ j : Nat, j < l.ss.length ∧ x = j) (hfl : f.length ≤ 4000000) (hc : c = -1 ∨ ∃ j : Nat, j < l.ss.length ∧ c = j) (hw : 0 < w) (hw2 : w ≤ 2000) (hnb : n ≤ 1000000) :
    VC Try.prog 24 [.fp (encN l), ints f, I c, I n, I w] h (vX ⟨(w / Nat.gcd n w : Nat), exL l f c (n / Nat.gcd n w : Nat) (w / Nat.gcd n w : Nat)⟩) h := by
  have hn := o.n
  obtain ⟨G, hG⟩ : ∃ G, G = Nat.gcd n w := ⟨_, rfl⟩
  rw [← hG]
  have hGp : 0 < G := by rw [hG]; exact Nat.gcd_pos_of_pos_right _ hw
  have hc1 := fun h => vc_now l h o
  refine VC.body Try.func24 rfl Try.ntmps24 Try.call24 (h.grows_refl) rfl ?_; conv => whnf
  repeat' (first | ((first | refine zs1 ?_ | refine zs2 ?_ | refine zs3 ?_ | refine zs4 ?_ | refine zs5 ?_ | refine zs6 [] ?_); conv => whnf) | ((first | apply zi1 | apply zi2 | apply zi3 | apply zi4 | apply zi5) <;> intro _ <;> conv => whnf))
  refine VCode.lp (fun x : Nat × Nat => [(0, .fp (encN l)), (1, ints f), (2, I c), (3, I n), (4, I w), (10, .ptr (.loc 0) 0), (11, I x.1), (12, I x.2)]) (fun _ => [.flat true [DI 0, .nilslice]]) (fun x => Nat.gcd x.1 x.2 = G ∧ x.1 ≤ 1000000 ∧ x.2 ≤ 1000000) (fun x => x.2) (n, w) ⟨hG.symm, hnb, by dsimp only; omega⟩ ?_ ?_
  · conv => whnf
    refine Retell.turn ⟨[0], 1, [], []⟩ (TurnOk.mk' _ _ [] [] (OutOk.lift _) rfl (by decide) zb trivial trivial rfl) zv zm
  · rintro ⟨a, b⟩ ⟨hab, ha1, hb1⟩
    dsimp only at hab ha1 hb1
    conv => whnf
    refine VIte.bne (fun h3 => ?_) (fun h3 => ?_)
    · have hb0 : 0 < b := by dsimp only at h3; omega
      have hml := Nat.mod_lt a hb0
      have hm2 : a % b ≤ 1000000 := by omega
      have hmm : Nat.gcd b (a % b) = G := by rw [← hab, Nat.gcd_comm b, ← Nat.gcd_rec, Nat.gcd_comm]
      have ht := tmod_nat a b
      conv => whnf
      repeat' (first | ((first | refine zs1 ?_ | refine zs2 ?_ | refine zs3 ?_ | refine zs4 ?_ | refine zs5 ?_ | refine zs6 [] ?_); conv => whnf) | ((first | apply zi1 | apply zi2 | apply zi3 | apply zi4 | apply zi5) <;> intro _ <;> conv => whnf))
      refine LEnd.intro (b, a % b) ⟨hmm, by dsimp only; omega, by dsimp only; omega⟩ (by dsimp only; omega) ?_
      conv => whnf
      rw [ht]
      refine Retell.turn ⟨[0], 1, [], []⟩ (TurnOk.mk' _ _ [] [] (OutOk.lift _) rfl (by decide) zb trivial trivial rfl) zv zm
    · have hb0 : b = 0 := by dsimp only at h3; omega
      subst hb0
      rw [Nat.gcd_zero_right] at hab
      subst hab
      have t1 := tdiv_nat n a
      have t2 := tdiv_nat w a
      obtain ⟨N, hN⟩ : ∃ N, N = n / a := ⟨_, rfl⟩
      obtain ⟨M, hM⟩ : ∃ M, M = w / a := ⟨_, rfl⟩
      rw [← hN] at t1
      rw [← hM] at t2
      rw [← hN, ← hM]
      have hM2 : M ≤ 2000 := by rw [hM]; exact Nat.le_trans (Nat.div_le_self _ _) hw2
      conv => whnf
      repeat' (first | ((first | refine zs1 ?_ | refine zs2 ?_ | refine zs3 ?_ | refine zs4 ?_ | refine zs5 ?_ | refine zs6 [] ?_); conv => whnf) | ((first | apply zi1 | apply zi2 | apply zi3 | apply zi4 | apply zi5) <;> intro _ <;> conv => whnf))
      have hN2 : N ≤ 1000000 := by rw [hN]; exact Nat.le_trans (Nat.div_le_self _ _) hnb
      rw [t1, t2, wrap_i64 (n := (N : Int)) (by omega), wrap_i64 (n := (M : Int)) (by omega)]
      refine VMem.make (n := l.ss.length) (0 : Int) encI_len rfl rfl rfl rfl rfl rfl (by omega) ?_
      conv => whnf
      repeat' (first | ((first | refine zs1 ?_ | refine zs2 ?_ | refine zs3 ?_ | refine zs4 ?_ | refine zs5 ?_); conv => whnf) | ((first | apply zi1 | apply zi2 | apply zi3 | apply zi4 | apply zi5) <;> intro _ <;> conv => whnf))
      refine VDraw.go [(1, 3)] (by kernel_rfl) (by kernel_rfl) ?_
      conv => whnf
      repeat' (first | ((first | refine zs1 ?_ | refine zs2 ?_ | refine zs3 ?_ | refine zs4 ?_ | refine zs5 ?_); conv => whnf) | ((first | apply zi1 | apply zi2 | apply zi3 | apply zi4 | apply zi5) <;> intro _ <;> conv => whnf) | (refine VCall.intro (hc1 _) ?_; conv => whnf))
      refine VMem.copyFs (l := List.replicate l.ss.length (0 : Int)) (l2 := nowP l) encI_len rfl rfl (by simp) rfl (nowP_len l).symm ?_
      conv => whnf
      repeat' (first | ((first | refine zs1 ?_ | refine zs2 ?_ | refine zs3 ?_ | refine zs4 ?_ | refine zs5 ?_); conv => whnf) | ((first | apply zi1 | apply zi2 | apply zi3 | apply zi4 | apply zi5) <;> intro _ <;> conv => whnf))
      have hAB : (exL l [] (-1) 0 (M : Int)).length = (nowP l).length := by rw [exL_len, nowP_len]
      refine VCode.lp (fun k : Nat => [(0, .fp (encN l)), (1, ints f), (2, I c), (3, I N), (4, I M), (10, .ptr (.loc 0) 0), (13, .ptr (.loc 2) 0), (48, I l.ss.length), (49, I k)])
        (fun k => [.flat true [DI 0, .nilslice], .flat true ((mixL (exL l [] (-1) 0 (M : Int)) (nowP l) k).flatMap encI), .cells true [I M, .gl (.loc 1) 1 l.ss.length]]) (fun k => k ≤ l.ss.length) (fun k => l.ss.length - k) 0 (Nat.zero_le _) ?_ ?_
      · conv => whnf
        refine Retell.turn ⟨[0,1,2], 3, [], []⟩ (TurnOk.mk' _ _ [] [] (OutOk.lift _) rfl (by decide) zb trivial trivial rfl) zv zm
      · intro k hk
        conv => whnf
        refine VIte.dec (fun h4 => ?_) (fun h4 => ?_)
        · have hs : l.ss[k]? = some l.ss[k] := List.getElem?_eq_getElem (by omega)
          have q1 := o.ss _ (List.getElem_mem (by omega : k < l.ss.length))
          have es := sAt_eq hs
          have hx1 : (mixL (exL l [] (-1) 0 (M : Int)) (nowP l) k)[k]? = some (1 - l.ss[k].ow) := by rw [mixL_at hAB (by rw [nowP_len]; omega)]; simp [nowP, hs]
          have hx2 := exL_at (l := l) (f := []) (c := -1) (n := 0) (w := (M : Int)) (i := k) (by omega)
          have hx3 := mixL_set hAB hx2
          have hml := mixL_len (k := k) hAB (by rw [nowP_len]; omega)
          rw [nowP_len] at hml
          have hcb := fun h => vc_bound l k h (by omega)
          rw [bdAt_eq hs] at hcb
          have hpr : prt l [] (-1) 0 (M : Int) k = bif isFree l.ss[k] then 0 else (1 - l.ss[k].ow) * (M : Int) := by
            have hk1 : ¬ ((k : Int) = -1) := by omega
            unfold prt freeQ
            rw [if_neg hk1, if_neg (by simp), es]
          rw [hpr] at hx3
          generalize l.ss[k] = s at hs q1 hx1 hx3 hcb
          have q2 := q1.ow
          have m1 := mul_le (a := 1 - s.ow) (b := (M : Int)) (A := 1) (B := 2000) (by omega) (by omega)
          conv => whnf
          repeat' (first | ((first | refine zs1 ?_ | refine zs2 ?_ | refine zs3 ?_ | refine zs4 ?_ | refine zs5 ?_); conv => whnf) | ((first | apply zi1 | apply zi2 | apply zi3 | apply zi4 | apply zi5) <;> intro _ <;> conv => whnf) | (refine VLd.recc encI_len k 0 rfl rfl rfl hx1 (by decide) rfl (by simp) ?_; conv => whnf))
          refine VMem.setRec encI_len k 0 ((1 - s.ow) * (M : Int)) rfl rfl rfl hx1 (by decide) rfl (by simp) ?_
          conv => whnf
          cases hfr : isFree s
          · rw [hfr] at hcb hx3
            rw [cond_false] at hx3
            repeat' (first | ((first | refine zs1 ?_ | refine zs2 ?_ | refine zs3 ?_ | refine zs4 ?_ | refine zs5 ?_); conv => whnf) | ((first | apply zi1 | apply zi2 | apply zi3 | apply zi4 | apply zi5) <;> intro _ <;> conv => whnf) | (refine VCall.intro (hcb _) ?_; conv => whnf))
            refine LEnd.intro (k + 1) (by omega) (by omega) ?_
            conv => whnf
            rw [hx3]
            refine Retell.turn ⟨[0,1,2], 3, [], []⟩ (TurnOk.mk' _ _ [] [] (OutOk.lift _) rfl (by decide) zb trivial trivial rfl) zv zm
          · rw [hfr] at hcb hx3
            rw [cond_true] at hx3
            have hx4 : ((mixL (exL l [] (-1) 0 (M : Int)) (nowP l) k).set k ((1 - s.ow) * (M : Int)))[k]? = some ((1 - s.ow) * (M : Int)) := by rw [List.getElem?_set_self (by omega)]
            have hx5 : ((mixL (exL l [] (-1) 0 (M : Int)) (nowP l) k).set k ((1 - s.ow) * (M : Int))).set k 0 = (mixL (exL l [] (-1) 0 (M : Int)) (nowP l) k).set k 0 := by rw [List.set_set]
            repeat' (first | ((first | refine zs1 ?_ | refine zs2 ?_ | refine zs3 ?_ | refine zs4 ?_ | refine zs5 ?_); conv => whnf) | ((first | apply zi1 | apply zi2 | apply zi3 | apply zi4 | apply zi5) <;> intro _ <;> conv => whnf) | (refine VCall.intro (hcb _) ?_; conv => whnf))
            refine VMem.setRec encI_len k 0 (0 : Int) rfl rfl rfl hx4 (by decide) rfl (by simp) ?_
            conv => whnf
            repeat' (first | ((first | refine zs1 ?_ | refine zs2 ?_ | refine zs3 ?_ | refine zs4 ?_ | refine zs5 ?_); conv => whnf) | ((first | apply zi1 | apply zi2 | apply zi3 | apply zi4 | apply zi5) <;> intro _ <;> conv => whnf))
            refine LEnd.intro (k + 1) (by omega) (by omega) ?_
            conv => whnf
            rw [hx5, hx3]
            refine Retell.turn ⟨[0,1,2], 3, [], []⟩ (TurnOk.mk' _ _ [] [] (OutOk.lift _) rfl (by decide) zb trivial trivial rfl) zv zm
        · have he : mixL (exL l [] (-1) 0 (M : Int)) (nowP l) k = exL l [] (-1) 0 (M : Int) := by
            unfold mixL
            rw [List.take_of_length_le (by rw [exL_len]; omega), List.drop_of_length_le (by rw [nowP_len]; omega), List.append_nil]
          rw [he]
          conv => whnf
          repeat' (first | ((first | refine zs1 ?_ | refine zs2 ?_ | refine zs3 ?_ | refine zs4 ?_ | refine zs5 ?_); conv => whnf) | ((first | apply zi1 | apply zi2 | apply zi3 | apply zi4 | apply zi5) <;> intro _ <;> conv => whnf))
          refine VCode.lp (fun k : Nat => [(2, I c), (3, I N), (4, I M), (10, .ptr (.loc 0) 0), (13, .ptr (.loc 2) 0), (69, ints f), (70, I f.length), (71, I k)])
            (fun k => [.flat true [DI 0, .nilslice], .flat true ((exL l (f.take k) (-1) 0 (M : Int)).flatMap encI), .cells true [I M, .gl (.loc 1) 1 l.ss.length]]) (fun k => k ≤ f.length) (fun k => f.length - k) 0 (Nat.zero_le _) ?_ ?_
          · conv => whnf
            refine Retell.turn ⟨[0,1,2], 3, [], []⟩ (TurnOk.mk' _ _ [] [] (OutOk.lift _) rfl (by decide) zb trivial trivial rfl) zv zm
          · intro k hk
            conv => whnf
            refine VIte.dec (fun h5 => ?_) (fun h5 => ?_)
            · have hx : f[k]? = some f[k] := List.getElem?_eq_getElem (by omega)
              obtain ⟨j, hj1, hj2⟩ := hf _ (List.getElem_mem (by omega : k < f.length))
              rw [hj2] at hx
              have hat := exL_at (l := l) (f := f.take k) (c := -1) (n := 0) (w := (M : Int)) hj1
              have hst := exL_set (l := l) (f := f.take k) (n := 0) (w := (M : Int)) hj1
              have htk : f.take k ++ [(j : Int)] = f.take (k + 1) := by rw [List.take_add_one, hx]; rfl
              rw [htk] at hst
              conv => whnf
              repeat' (first | ((first | refine zs1 ?_ | refine zs2 ?_ | refine zs3 ?_ | refine zs4 ?_ | refine zs5 ?_); conv => whnf) | ((first | apply zi1 | apply zi2 | apply zi3 | apply zi4 | apply zi5) <;> intro _ <;> conv => whnf) | (refine VAny.ix encI_len k rfl rfl hx ?_; conv => whnf))
              refine VMem.setRec encI_len j 0 (M : Int) rfl rfl rfl hat (by decide) rfl (by simp) ?_
              conv => whnf
              repeat' (first | ((first | refine zs1 ?_ | refine zs2 ?_ | refine zs3 ?_ | refine zs4 ?_ | refine zs5 ?_); conv => whnf) | ((first | apply zi1 | apply zi2 | apply zi3 | apply zi4 | apply zi5) <;> intro _ <;> conv => whnf))
              refine LEnd.intro (k + 1) (by omega) (by omega) ?_
              conv => whnf
              rw [hst]
              refine Retell.turn ⟨[0,1,2], 3, [], []⟩ (TurnOk.mk' _ _ [] [] (OutOk.lift _) rfl (by decide) zb trivial trivial rfl) zv zm
            · have hkf : f.take k = f := List.take_of_length_le (by omega)
              rw [hkf]
              rcases hc with rfl | ⟨j, hj1, rfl⟩
              · have hel := exL_len l f (-1) (N : Int) (M : Int)
                rw [exL_irr l f 0 (N : Int) (M : Int), show l.ss.length = (exL l f (-1) (N : Int) (M : Int)).length from hel.symm]
                conv => whnf
                repeat' (first | ((first | refine zs1 ?_ | refine zs2 ?_ | refine zs3 ?_ | refine zs4 ?_ | refine zs5 ?_ | refine zs6 [] ?_); conv => whnf) | ((first | apply zi1 | apply zi2 | apply zi3 | apply zi4 | apply zi5) <;> intro _ <;> conv => whnf))
                refine VOut.data 3 [(1, (exL l f (-1) (N : Int) (M : Int)).flatMap encI)] [] rfl zf (by exact FmAll.nil) zv
              · have hat := exL_at (l := l) (f := f) (c := -1) (n := 0) (w := (M : Int)) hj1
                have hst := exL_cut (l := l) (f := f) (n := (N : Int)) (m := 0) (w := (M : Int)) hj1
                have hel := exL_len l f (j : Int) (N : Int) (M : Int)
                conv => whnf
                repeat' (first | ((first | refine zs1 ?_ | refine zs2 ?_ | refine zs3 ?_ | refine zs4 ?_ | refine zs5 ?_ | refine zs6 [] ?_); conv => whnf) | ((first | apply zi1 | apply zi2 | apply zi3 | apply zi4 | apply zi5) <;> intro _ <;> conv => whnf))
                all_goals try (exfalso; omega)
                refine VMem.setRec encI_len j 0 (N : Int) rfl rfl rfl hat (by decide) rfl (by simp) ?_
                conv => whnf
                repeat' (first | ((first | refine zs1 ?_ | refine zs2 ?_ | refine zs3 ?_ | refine zs4 ?_ | refine zs5 ?_ | refine zs6 [] ?_); conv => whnf) | ((first | apply zi1 | apply zi2 | apply zi3 | apply zi4 | apply zi5) <;> intro _ <;> conv => whnf))
                rw [hst, show l.ss.length = (exL l f (j : Int) (N : Int) (M : Int)).length from hel.symm]
                refine VOut.data 3 [(1, (exL l f (j : Int) (N : Int) (M : Int)).flatMap encI)] [] rfl zf (by exact FmAll.nil) zv
end Go.Proofs.Ytaodhdpopklipaa.Bt

open Go.Vm
namespace Go.Proofs.Ytaodhdpopklipaa.Bt
set_option maxRecDepth 20000
set_option maxHeartbeats 4000000
theorem ord_mem {l : Lnd} {x : Int} (h : x ∈ ordL l) : ∃ j : Nat, j < l.ss.length ∧ x = j ∧ freeQ l j = true := by
  have := isGo_mem (q := ahB l) (l := frL l l.ss.length) (Nat.le_refl _) x h
  exact mem_selS.1 this
theorem ord_len (l : Lnd) : (ordL l).length ≤ l.ss.length := by
  have : (ordL l).length = (frL l l.ss.length).length := isrt_len _ _
  rw [this]; exact selS_len _ _
def cutC (l : Lnd) (many : Nat) : Int := (ordL l).getD many (-1)
end Go.Proofs.Ytaodhdpopklipaa.Bt

open Go.Vm
namespace Go.Proofs.Ytaodhdpopklipaa.Bt
set_option maxRecDepth 20000
set_option maxHeartbeats 1000000
theorem hN_set : ∀ {ss : List Str} {ps : List Int} {i : Nat} {s : Str} {p : Int} (v : Int), ss[i]? = some s → ps[i]? = some p → hN ss (ps.set i v) = hN ss ps + s.no * (v - p)
  | [], _, _, _, _, _, h, _ => by simp at h
  | _ :: _, [], _, _, _, _, _, h => by simp at h
  | t :: ss, q :: ps, 0, s, p, v, h1, h2 => by
    simp at h1 h2; subst h1 h2
    rw [List.set_cons_zero, hN, hN, Int.mul_sub]; omega
  | t :: ss, q :: ps, i + 1, s, p, v, h1, h2 => by
    rw [List.set_cons_succ, hN, hN, hN_set v (by simpa using h1) (by simpa using h2)]; omega
theorem hS_set {w : Int} : ∀ {ss : List Str} {ps : List Int} {i : Nat} {s : Str} {p : Int} (v : Int), ss[i]? = some s → ps[i]? = some p → hS w ss (ps.set i v) = hS w ss ps - s.so * (v - p)
  | [], _, _, _, _, _, h, _ => by simp at h
  | _ :: _, [], _, _, _, _, _, h => by simp at h
  | t :: ss, q :: ps, 0, s, p, v, h1, h2 => by
    simp at h1 h2; subst h1 h2
    rw [List.set_cons_zero, hS, hS, Int.mul_sub, Int.mul_sub, Int.mul_sub]; omega
  | t :: ss, q :: ps, i + 1, s, p, v, h1, h2 => by
    rw [List.set_cons_succ, hS, hS, hS_set v (by simpa using h1) (by simpa using h2)]; omega
theorem hN_scale (w : Int) : ∀ (ss : List Str) (ps : List Int), hN ss (ps.map (w * ·)) = w * hN ss ps
  | [], ps => by cases ps <;> simp [hN]
  | s :: ss, [] => by simp [hN]
  | s :: ss, p :: ps => by
    rw [List.map_cons, hN, hN, hN_scale w ss ps, Int.mul_add, ← Int.mul_assoc, ← Int.mul_assoc, Int.mul_comm s.no w]
theorem hS_scale (w : Int) : ∀ (ss : List Str) (ps : List Int), hS w ss (ps.map (w * ·)) = w * hS 1 ss ps
  | [], ps => by cases ps <;> simp [hS]
  | s :: ss, [] => by simp [hS]
  | s :: ss, p :: ps => by
    have e : w - w * p = w * (1 - p) := by rw [Int.mul_sub]; omega
    rw [List.map_cons, hS, hS, hS_scale w ss ps, Int.mul_add, e, ← Int.mul_assoc, ← Int.mul_assoc, Int.mul_comm s.so w]
theorem hN_mono : ∀ {ss : List Str} {ps qs : List Int}, (∀ s ∈ ss, 0 ≤ s.no) → ps.length = ss.length → qs.length = ss.length → (∀ (i : Nat) p q, ps[i]? = some p → qs[i]? = some q → p ≤ q) → hN ss ps ≤ hN ss qs
  | [], _, _, _, _, _, _ => by simp [hN]
  | s :: ss, [], _, _, h, _, _ => by simp at h
  | s :: ss, _ :: _, [], _, _, h, _ => by simp at h
  | s :: ss, p :: ps, q :: qs, hs, h1, h2, h => by
    have := hN_mono (fun t hm => hs t (List.mem_cons_of_mem _ hm)) (by simpa using h1) (by simpa using h2) (fun i p q hp hq => h (i + 1) p q (by simpa using hp) (by simpa using hq))
    have h0 := Int.mul_le_mul_of_nonneg_left (h 0 p q rfl rfl) (hs s (by simp))
    rw [hN, hN]; omega
theorem hS_mono {w : Int} : ∀ {ss : List Str} {ps qs : List Int}, (∀ s ∈ ss, 0 ≤ s.so) → ps.length = ss.length → qs.length = ss.length → (∀ (i : Nat) p q, ps[i]? = some p → qs[i]? = some q → p ≤ q) → hS w ss qs ≤ hS w ss ps
  | [], _, _, _, _, _, _ => by simp [hS]
  | s :: ss, [], _, _, h, _, _ => by simp at h
  | s :: ss, _ :: _, [], _, _, h, _ => by simp at h
  | s :: ss, p :: ps, q :: qs, hs, h1, h2, h => by
    have := hS_mono (w := w) (fun t hm => hs t (List.mem_cons_of_mem _ hm)) (by simpa using h1) (by simpa using h2) (fun i p q hp hq => h (i + 1) p q (by simpa using hp) (by simpa using hq))
    have h0 := Int.mul_le_mul_of_nonneg_left (show w - q ≤ w - p by have := h 0 p q rfl rfl; omega) (hs s (by simp))
    rw [hS, hS]; omega
/-! ### The order, place by place -/
theorem selS_nodup (q : Nat → Bool) : ∀ k, (selS q k).Nodup
  | 0 => List.nodup_nil
  | k + 1 => by
    rw [selS]
    split
    · rw [List.nodup_append]
      refine ⟨selS_nodup q k, by simp, ?_⟩
      intro a ha b hb
      rw [List.mem_singleton] at hb
      obtain ⟨j, h1, h2, _⟩ := mem_selS.1 ha
      omega
    · exact selS_nodup q k
theorem insS_nodup {q : Int → Bool} {out : List Int} {x : Int} (h : out.Nodup) (hx : x ∉ out) : (insS q out x).Nodup := by
  unfold insS
  generalize posS q out out.length = p
  rw [← List.take_append_drop p out] at h hx
  generalize out.take p = A at h hx
  generalize out.drop p = B at h hx
  rw [List.nodup_append] at h ⊢
  obtain ⟨h1, h2, h3⟩ := h
  refine ⟨h1, ?_, ?_⟩
  · rw [List.nodup_cons]
    exact ⟨fun hb => hx (List.mem_append.2 (.inr hb)), h2⟩
  · intro a ha b hb
    rcases List.mem_cons.1 hb with rfl | hb
    · intro e; subst e; exact hx (List.mem_append.2 (.inl ha))
    · exact h3 a ha b hb
theorem isGo_nodup {q : Int → Int → Bool} {l : List Int} (h : l.Nodup) : ∀ m, m ≤ l.length → (isGo q l m).Nodup ∧ ∀ y ∈ isGo q l m, y ∈ l.take m
  | 0, _ => ⟨List.nodup_nil, fun y hy => by cases hy⟩
  | m + 1, hm => by
    obtain ⟨h1, h2⟩ := isGo_nodup h m (by omega)
    have hx : l[m]? = some l[m] := List.getElem?_eq_getElem (by omega)
    have hg : l.getD m 0 = l[m] := by rw [List.getD_eq_getElem?_getD, hx]; rfl
    have hnot : l[m] ∉ l.take m := by
      intro hin
      rw [← List.take_append_drop m l, List.nodup_append] at h
      refine h.2.2 _ hin l[m] ?_ rfl
      rw [List.drop_eq_getElem_cons (by omega)]; exact List.mem_cons_self
    have htk : l.take (m + 1) = l.take m ++ [l[m]] := by rw [List.take_add_one, hx]; rfl
    rw [isGo, hg]
    refine ⟨insS_nodup h1 fun hin => hnot (h2 _ hin), fun y hy => ?_⟩
    rw [htk]
    rcases insS_mem.1 hy with rfl | hy
    · exact List.mem_append.2 (.inr List.mem_cons_self)
    · exact List.mem_append.2 (.inl (h2 y hy))
theorem ord_nodup (l : Lnd) : (ordL l).Nodup := (isGo_nodup (selS_nodup _ _) _ (Nat.le_refl _)).1
def oS (l : Lnd) (k : Nat) : Str := sAt l ((ordL l).getD k 0).toNat
structure AtK (l : Lnd) (k j : Nat) : Prop where
  at_ : (ordL l)[k]? = some (j : Int)
  lt : j < l.ss.length
  free : freeQ l j = true
  new : (j : Int) ∉ (ordL l).take k
  tk : (ordL l).take (k + 1) = (ordL l).take k ++ [(j : Int)]
  cut : cutC l k = j
  st : l.ss[j]? = some (oS l k)
theorem at_k {l : Lnd} {k : Nat} (hk : k < (ordL l).length) : ∃ j, AtK l k j := by
  have hx : (ordL l)[k]? = some (ordL l)[k] := List.getElem?_eq_getElem hk
  obtain ⟨j, h1, h2, h3⟩ := ord_mem (List.getElem_mem hk)
  rw [h2] at hx
  have hs : l.ss[j]? = some l.ss[j] := List.getElem?_eq_getElem h1
  refine ⟨j, hx, h1, h3, ?_, by rw [List.take_add_one, hx]; rfl, by unfold cutC; rw [List.getD_eq_getElem?_getD, hx]; rfl, ?_⟩
  · intro hin
    have hn := ord_nodup l
    rw [← List.take_append_drop k (ordL l), List.nodup_append] at hn
    refine hn.2.2 _ hin (j : Int) ?_ rfl
    rw [List.drop_eq_getElem_cons hk, h2]; simp
  · unfold oS
    rw [List.getD_eq_getElem?_getD, hx, Option.getD_some, Int.toNat_natCast, sAt_eq hs]; exact hs
def xK (l : Lnd) (k : Nat) : Exc := ⟨1, exL l ((ordL l).take k) (-1) 0 1⟩
def xC (l : Lnd) (k : Nat) (n w : Int) : Exc := ⟨w, exL l ((ordL l).take k) (cutC l k) n w⟩
theorem prt_free {l : Lnd} {f : List Int} {n w : Int} {j : Nat} (hf : freeQ l j = true) (hn : (j : Int) ∉ f) : prt l f (-1) n w j = 0 := by
  have h1 : ¬ ((j : Int) = -1) := by omega
  unfold prt
  rw [if_neg h1, if_neg hn, hf]; rfl
theorem xC_zero {l : Lnd} {k : Nat} (w : Int) : exL l ((ordL l).take k) (cutC l k) 0 w = exL l ((ordL l).take k) (-1) 0 w := by
  rcases Nat.lt_or_ge k (ordL l).length with hk | hk
  · obtain ⟨j, A⟩ := at_k hk
    have hat := exL_at (l := l) (f := (ordL l).take k) (c := -1) (n := 0) (w := w) A.lt
    rw [prt_free A.free A.new] at hat
    rw [A.cut, ← exL_cut (m := 0) A.lt]
    obtain ⟨h5, h6⟩ := List.getElem?_eq_some_iff.1 hat
    conv => rhs; rw [← List.set_getElem_self h5]
    rw [h6]
  · have : cutC l k = -1 := by unfold cutC; rw [List.getD_eq_getElem?_getD, List.getElem?_eq_none hk]; rfl
    rw [this]
theorem exL_scale (l : Lnd) (f : List Int) (n w : Int) : exL l f (-1) n w = (exL l f (-1) 0 1).map (w * ·) := by
  unfold exL
  rw [List.map_map]
  refine List.map_congr_left fun i _ => ?_
  have h1 : ¬ ((i : Int) = -1) := by omega
  simp only [Function.comp_apply]
  unfold prt
  rw [if_neg h1, if_neg h1]
  split
  · omega
  · cases freeQ l i
    · simp only [cond_false]; rw [Int.mul_one, Int.mul_comm]
    · simp
def nK (l : Lnd) (k : Nat) : Int := gnN l (xK l k)
def sK (l : Lnd) (k : Nat) : Int := gnS l (xK l k)
theorem nK_succ {l : Lnd} {k : Nat} (hk : k < (ordL l).length) : nK l (k + 1) = nK l k + (oS l k).no ∧ sK l (k + 1) = sK l k - (oS l k).so := by
  obtain ⟨j, A⟩ := at_k hk
  have hat := exL_at (l := l) (f := (ordL l).take k) (c := -1) (n := 0) (w := 1) A.lt
  rw [prt_free A.free A.new] at hat
  have e : exL l ((ordL l).take (k + 1)) (-1) 0 1 = (exL l ((ordL l).take k) (-1) 0 1).set j 1 := by rw [A.tk, exL_set A.lt]
  have e1 := hN_set 1 A.st hat
  have e2 := hS_set (w := 1) 1 A.st hat
  rw [← e] at e1 e2
  unfold nK sK gnN gnS hasN hasS xK
  dsimp only
  rw [e1, e2]
  omega
theorem xC_gn {l : Lnd} {k : Nat} (n w : Int) (hk : k < (ordL l).length) : gnN l (xC l k n w) = w * nK l k + n * (oS l k).no ∧ gnS l (xC l k n w) = w * sK l k - n * (oS l k).so := by
  obtain ⟨j, A⟩ := at_k hk
  have hat := exL_at (l := l) (f := (ordL l).take k) (c := -1) (n := 0) (w := w) A.lt
  rw [prt_free A.free A.new] at hat
  have e : exL l ((ordL l).take k) (cutC l k) n w = (exL l ((ordL l).take k) (-1) 0 w).set j n := by rw [A.cut, exL_cut A.lt]
  have e1 := hN_set n A.st hat
  have e2 := hS_set (w := w) n A.st hat
  rw [← e, exL_scale l _ 0 w, hN_scale] at e1
  rw [← e, exL_scale l _ 0 w, hS_scale] at e2
  unfold nK sK gnN gnS hasN hasS xK xC
  dsimp only
  rw [e1, e2]
  simp only [Int.mul_sub, Int.one_mul, Int.mul_zero, Int.sub_zero, Int.mul_comm n]
  constructor <;> omega
end Go.Proofs.Ytaodhdpopklipaa.Bt

open Go.Vm
namespace Go.Proofs.Ytaodhdpopklipaa.Bt
set_option maxRecDepth 20000
set_option maxHeartbeats 4000000

theorem exL_ok {l : Lnd} {f : List Int} {c n w : Int} (o : Ok l) (hn : 0 ≤ n ∧ n ≤ w) (hw : 1 ≤ w ∧ w ≤ 2000) : XOk l ⟨w, exL l f c n w⟩ where
  w := hw
  len := exL_len l f c n w
  ps := fun p hp => by
    obtain ⟨i, hi, rfl⟩ := List.mem_map.1 hp
    rw [List.mem_range] at hi
    have hs : l.ss[i]? = some l.ss[i] := List.getElem?_eq_getElem hi
    have q := (o.ss _ (List.getElem_mem hi)).ow
    show 0 ≤ prt l f c n w i ∧ prt l f c n w i ≤ w
    unfold prt
    rw [sAt_eq hs]
    split
    · exact hn
    · split
      · omega
      · cases freeQ l i
        · rw [cond_false]
          rcases q with e | e <;> rw [e] <;> omega
        · rw [cond_true]; omega
theorem xK_ok {l : Lnd} (o : Ok l) (k : Nat) : XOk l (xK l k) := exL_ok o (by omega) (by omega)
theorem xC_ok {l : Lnd} (o : Ok l) (k : Nat) {n w : Int} (hn : 0 ≤ n ∧ n ≤ w) (hw : 1 ≤ w ∧ w ≤ 2000) : XOk l (xC l k n w) := exL_ok o hn hw
def xR (l : Lnd) (k n w : Nat) : Exc := xC l k ((n / Nat.gcd n w : Nat) : Int) ((w / Nat.gcd n w : Nat) : Int)
theorem red_bd {n w : Nat} (hn : n ≤ w) (hw : 1 ≤ w) (hw2 : w ≤ 2000) : (0 ≤ ((n / Nat.gcd n w : Nat) : Int) ∧ ((n / Nat.gcd n w : Nat) : Int) ≤ ((w / Nat.gcd n w : Nat) : Int)) ∧ 1 ≤ ((w / Nat.gcd n w : Nat) : Int) ∧ ((w / Nat.gcd n w : Nat) : Int) ≤ 2000 := by
  have hg := Nat.gcd_pos_of_pos_right n hw
  have hgw : Nat.gcd n w ≤ w := Nat.le_of_dvd hw (Nat.gcd_dvd_right _ _)
  have h1 : n / Nat.gcd n w ≤ w / Nat.gcd n w := Nat.div_le_div_right hn
  have h2 : 0 < w / Nat.gcd n w := Nat.div_pos hgw hg
  have h3 : w / Nat.gcd n w ≤ w := Nat.div_le_self _ _
  generalize n / Nat.gcd n w = a at *
  generalize w / Nat.gcd n w = b at *
  omega
theorem xR_zero {l : Lnd} {k w : Nat} (hw : 1 ≤ w) : xR l k 0 w = xK l k := by
  unfold xR xC xK
  rw [Nat.gcd_zero_left, Nat.zero_div, Nat.div_self (by omega)]
  show (⟨1, exL l _ (cutC l k) 0 1⟩ : Exc) = _
  rw [xC_zero]
theorem nK_bd {l : Lnd} (o : Ok l) (k : Nat) : (-16000 ≤ nK l k ∧ nK l k ≤ 16000) ∧ -16000 ≤ sK l k ∧ sK l k ≤ 16000 := by
  have b1 := nowN_b o
  have b2 := nowS_b o
  have hx := xK_ok o k
  have a1 := hasN_b o hx
  have a2 := hasS_b o hx
  have c1 := hN_b1 l.ss (xK l k).ps (o.nos 0) (hx.pss 0)
  have c2 := hS_b1 l.ss (xK l k).ps (o.sos 0) (hx.pss 0)
  have hn := o.n
  have e1 : hasN l (xK l k) = hN l.ss (xK l k).ps := rfl
  have e2 : hasS l (xK l k) = hS 1 l.ss (xK l k).ps := rfl
  have e3 : (xK l k).w = 1 := rfl
  unfold nK sK gnN gnS
  rw [e3]
  omega
theorem less0 {l : Lnd} (o : Ok l) : 0 ≤ sK l 0 - nK l 0 := by
  have hle : ∀ (i : Nat) p q, (xK l 0).ps[i]? = some p → (nowP l)[i]? = some q → p ≤ q := by
    intro i p q hp hq
    have hi : i < l.ss.length := by rw [← nowP_len l]; exact (List.getElem?_eq_some_iff.1 hq).1
    have hs : l.ss[i]? = some l.ss[i] := List.getElem?_eq_getElem hi
    have q1 := (o.ss _ (List.getElem_mem hi)).ow
    have e1 : (xK l 0).ps[i]? = some (prt l [] (-1) 0 1 i) := exL_at (f := []) hi
    rw [e1] at hp
    have e2 : (nowP l)[i]? = some (1 - l.ss[i].ow) := by simp [nowP, hs]
    rw [e2] at hq
    cases hp; cases hq
    have hk1 : ¬ ((i : Int) = -1) := by omega
    unfold prt
    rw [if_neg hk1, if_neg (by simp), sAt_eq hs]
    cases freeQ l i
    · rw [cond_false]; omega
    · rw [cond_true]; omega
  have h1 := hN_mono (ss := l.ss) (fun s hs => by have := (o.ss s hs).no; omega) (exL_len l _ _ _ _) (nowP_len l) hle
  have h2 := hS_mono (w := 1) (ss := l.ss) (fun s hs => by have := (o.ss s hs).so; omega) (exL_len l _ _ _ _) (nowP_len l) hle
  have e1 : hasN l (xK l 0) = hN l.ss (xK l 0).ps := rfl
  have e2 : hasS l (xK l 0) = hS 1 l.ss (xK l 0).ps := rfl
  have e3 : hasN l (nowX l) = hN l.ss (nowP l) := rfl
  have e4 : hasS l (nowX l) = hS 1 l.ss (nowP l) := rfl
  have e5 : (xK l 0).w = 1 := rfl
  unfold sK nK gnN gnS
  rw [e5, e1, e2, e3, e4]
  have e6 : (xK l 0).ps = exL l ((ordL l).take 0) (-1) 0 1 := rfl
  rw [e6]
  omega
theorem vc_given0 (l : Lnd) (f : List Int) (h : Hp) (o : Ok l) (hf : ∀ x ∈ f, ∃ j : Nat, j < l.ss.length ∧ x = j) (hfl : f.length ≤ 4000000) :
    VC Try.prog 24 [.fp (encN l), ints f, I (-1), I 0, I 1] h (vX ⟨1, exL l f (-1) 0 1⟩) h := vc_given l f (-1) 0 1 h o hf hfl (.inl rfl) (by decide) (by decide) (by decide)
theorem vc_givenC (l : Lnd) (k j n w : Nat) (h : Hp) (o : Ok l) (A : AtK l k j) (hw : 0 < w) (hw2 : w ≤ 2000) (hnb : n ≤ 1000000) :
    VC Try.prog 24 [.fp (encN l), ints ((ordL l).take k), I j, I n, I w] h (vX (xR l k n w)) h := by
  have := vc_given l ((ordL l).take k) j n w h o (fun x hx => by obtain ⟨j, h1, h2, _⟩ := ord_mem (List.mem_of_mem_take hx); exact ⟨j, h1, h2⟩) (by have := ord_len l; have := o.n; rw [List.length_take]; omega) (.inr ⟨j, A.lt, rfl⟩) hw hw2 hnb
  rw [← A.cut] at this
  rw [← A.cut]; exact this
theorem vc_givenK (l : Lnd) (k : Nat) (h : Hp) (o : Ok l) :
    VC Try.prog 24 [.fp (encN l), ints ((ordL l).take k), I (-1), I 0, I 1] h (vX (xK l k)) h :=
  vc_given0 l ((ordL l).take k) h o (fun x hx => by obtain ⟨j, h1, h2, _⟩ := ord_mem (List.mem_of_mem_take hx); exact ⟨j, h1, h2⟩) (by have := ord_len l; have := o.n; rw [List.length_take]; omega)
def stepK (l : Lnd) (k : Nat) : Int := (oS l k).no + (oS l k).so
def evGo (l : Lnd) : Nat → Nat → Exc
  | k, 0 => xK l k
  | k, d + 1 => if sK l k - nK l k < stepK l k then xR l k (sK l k - nK l k).toNat (stepK l k).toNat else evGo l (k + 1) d
def evX (l : Lnd) : Exc := evGo l 0 (ordL l).length
theorem vc_Even_ok (l : Lnd) (h : Hp) (o : Ok l) : VC Try.prog 11 [vL l] h (.tuple [vX (evX l), I 0]) h := by
  obtain ⟨R, hR⟩ : ∃ R, R = evX l := ⟨_, rfl⟩
  rw [← hR]
  unfold evX at hR
  have hn := o.n
  have hol := ord_len l
  refine VC.body Try.func11 rfl Try.ntmps11 Try.call11 (h.grows_refl) rfl ?_; conv => whnf
  repeat' (first | ((first | refine zs1 ?_ | refine zs2 ?_ | refine zs3 ?_ | refine zs4 ?_ | refine zs5 ?_ | refine zs6 [] ?_); conv => whnf) | ((first | apply zi1 | apply zi2 | apply zi3 | apply zi4 | apply zi5) <;> intro _ <;> conv => whnf) | (refine VCall.intro (vc_opened_ok l _ o) ?_; conv => whnf) | (refine VCall.intro (vc_order l _ o) ?_; conv => whnf))
  refine VCode.lp (fun k : Nat => [(2, .ptr (.loc 0) 0), (4, .fp (encN l)), (6, ints (ordL l)), (23, ints (ordL l)), (24, I (ordL l).length), (25, I k)]) (fun _ => [.flat true [DI 0, .nilslice]]) (fun k => k ≤ (ordL l).length ∧ R = evGo l k ((ordL l).length - k) ∧ 0 ≤ sK l k - nK l k) (fun k => (ordL l).length - k) 0 ⟨Nat.zero_le _, hR, less0 o⟩ ?_ ?_
  · conv => whnf
    refine Retell.turn ⟨[1], 2, [], []⟩ (TurnOk.mk' _ _ [] [] (OutOk.lift _) rfl (by decide) zb trivial trivial rfl) zv zm
  · rintro k ⟨hk, hRk, hless⟩
    conv => whnf
    refine VIte.dec (fun h3 => ?_) (fun h3 => ?_)
    · have hkl : k < (ordL l).length := by omega
      obtain ⟨j, A⟩ := at_k hkl
      have hsok := o.ss _ (List.mem_of_getElem? A.st)
      have hst : stepK l k = (oS l k).no + (oS l k).so := rfl
      rw [show (ordL l).length - k = ((ordL l).length - (k + 1)) + 1 by omega, evGo] at hRk
      obtain ⟨n1, n2⟩ := nK_succ hkl
      have hbd := nK_bd o k
      have q1 := hsok.no
      have q2 := hsok.so
      have c1 := fun h => vc_givenK l k h o
      have c2 := fun h => vc_gains l (xK l k) h o (xK_ok o k)
      have e1 : gnN l (xK l k) = nK l k := rfl
      have e2 : gnS l (xK l k) = sK l k := rfl
      rw [e1, e2] at c2
      obtain ⟨m, hm⟩ : ∃ m : Nat, (m : Int) = sK l k - nK l k := ⟨(sK l k - nK l k).toNat, by omega⟩
      obtain ⟨s, hs⟩ : ∃ s : Nat, (s : Int) = stepK l k := ⟨(stepK l k).toNat, by omega⟩
      have c3 := fun h => vc_givenC l k j m s h o A (by omega) (by omega) (by omega)
      rw [show (sK l k - nK l k).toNat = m by omega, show (stepK l k).toNat = s by omega] at hRk
      have hAs := A.st
      have hAa := A.at_
      have hsub : ((ordL l).drop (Int.toNat 0)).take ((k : Int) - 0).toNat = (ordL l).take k := by simp
      generalize oS l k = st at hAs hst q1 q2 n1 n2
      generalize sK l k = S at *
      generalize nK l k = N at *
      conv => whnf
      repeat' (first | ((first | refine zs1 ?_ | refine zs2 ?_ | refine zs3 ?_ | refine zs4 ?_ | refine zs5 ?_); conv => whnf) | ((first | apply zi1 | apply zi2 | apply zi3 | apply zi4 | apply zi5) <;> intro _ <;> conv => whnf) | (refine VAny.ix encI_len k rfl rfl hAa ?_; conv => whnf))
      refine VAny.sub encI_len rfl (by omega) ?_
      rw [hsub]
      conv => whnf
      repeat' (first | ((first | refine zs1 ?_ | refine zs2 ?_ | refine zs3 ?_ | refine zs4 ?_ | refine zs5 ?_); conv => whnf) | ((first | apply zi1 | apply zi2 | apply zi3 | apply zi4 | apply zi5) <;> intro _ <;> conv => whnf) | (refine VCall.intro (c1 _) ?_; conv => whnf) | (refine VCall.intro (c2 _) ?_; conv => whnf))
      refine VDraw.go [] (by kernel_rfl) (by kernel_rfl) ?_
      conv => whnf
      repeat' (first | ((first | refine zs1 ?_ | refine zs2 ?_ | refine zs3 ?_ | refine zs4 ?_ | refine zs5 ?_); conv => whnf) | ((first | apply zi1 | apply zi2 | apply zi3 | apply zi4 | apply zi5) <;> intro _ <;> conv => whnf) | (refine VAny.ix encT_len j rfl rfl hAs ?_; conv => whnf))
      · rename_i h5
        refine VAny.sub encI_len rfl (by omega) ?_
        rw [hsub]
        simp only [hm, hs, hst] at c3
        conv => whnf
        repeat' (first | ((first | refine zs1 ?_ | refine zs2 ?_ | refine zs3 ?_ | refine zs4 ?_ | refine zs5 ?_); conv => whnf) | ((first | apply zi1 | apply zi2 | apply zi3 | apply zi4 | apply zi5) <;> intro _ <;> conv => whnf) | (refine VCall.intro (c3 _) ?_; conv => whnf))
        rw [hRk, if_pos (by omega)]
        exact VOut.same rfl
      · rename_i h5
        refine LEnd.intro (k + 1) ⟨by omega, by rw [hRk, if_neg (by omega)], by rw [n1, n2]; omega⟩ (by omega) ?_
        conv => whnf
        refine Retell.turn ⟨[0], 2, [], []⟩ (TurnOk.mk' _ _ [] [] (OutOk.lift _) rfl (by decide) zb trivial trivial rfl) zv zm
    · have hkl : k = (ordL l).length := by omega
      subst hkl
      rw [Nat.sub_self, evGo] at hRk
      subst hRk
      have c1 := fun h => vc_givenK l (ordL l).length h o
      rw [List.take_of_length_le (Nat.le_refl _)] at c1
      conv => whnf
      repeat' (first | ((first | refine zs1 ?_ | refine zs2 ?_ | refine zs3 ?_ | refine zs4 ?_ | refine zs5 ?_ | refine zs6 [] ?_); conv => whnf) | ((first | apply zi1 | apply zi2 | apply zi3 | apply zi4 | apply zi5) <;> intro _ <;> conv => whnf) | (refine VCall.intro (c1 _) ?_; conv => whnf))
      exact VOut.same rfl
end Go.Proofs.Ytaodhdpopklipaa.Bt

open Go.Vm
namespace Go.Proofs.Ytaodhdpopklipaa.Bt
set_option maxRecDepth 20000
set_option maxHeartbeats 4000000
theorem xR_gn {l : Lnd} {k n w : Nat} (hk : k < (ordL l).length) (hw : 0 < w) :
    ∃ g a b : Nat, 0 < g ∧ n = g * a ∧ w = g * b ∧ xR l k n w = xC l k a b ∧ gnN l (xR l k n w) = b * nK l k + a * (oS l k).no ∧ gnS l (xR l k n w) = b * sK l k - a * (oS l k).so := by
  have hg := Nat.gcd_pos_of_pos_right n hw
  obtain ⟨e1, e2⟩ := xC_gn (l := l) (k := k) ((n / Nat.gcd n w : Nat) : Int) ((w / Nat.gcd n w : Nat) : Int) hk
  exact ⟨Nat.gcd n w, n / Nat.gcd n w, w / Nat.gcd n w, hg, (Nat.mul_div_cancel' (Nat.gcd_dvd_left _ _)).symm, (Nat.mul_div_cancel' (Nat.gcd_dvd_right _ _)).symm, rfl, e1, e2⟩
end Go.Proofs.Ytaodhdpopklipaa.Bt

open Go.Vm
namespace Go.Proofs.Ytaodhdpopklipaa.Bt
set_option maxRecDepth 20000
set_option maxHeartbeats 4000000
def allN (l : Lnd) : Int := nK l (ordL l).length
end Go.Proofs.Ytaodhdpopklipaa.Bt

open Go.Vm
namespace Go.Proofs.Ytaodhdpopklipaa.Bt
set_option maxRecDepth 20000
set_option maxHeartbeats 1000000
structure Prc (l : Lnd) (x : Exc) (a b : Int) : Prop where
  ok : XOk l x
  al : ∀ (i : Nat) (s : Str) (p : Int), l.ss[i]? = some s → x.ps[i]? = some p → isFree s = true ∨ p = x.w * (1 - s.ow)
  pr : ∀ (i : Nat) (s : Str) (p : Int), l.ss[i]? = some s → x.ps[i]? = some p → isFree s = true → (0 < s.no * a - s.so * b → x.w ≤ p) ∧ (s.no * a - s.so * b < 0 → p ≤ 0)
end Go.Proofs.Ytaodhdpopklipaa.Bt

open Go.Vm
namespace Go.Proofs.Ytaodhdpopklipaa.Bt
set_option maxRecDepth 20000
set_option maxHeartbeats 1000000

/-! The order is one, and prices hold for exchanges by order. -/

theorem posS_hi {q : Int → Bool} {out : List Int} : ∀ (m j : Nat), posS q out m ≤ j → j < m → q (out.getD j 0) = true
  | 0, j, _, h => by omega
  | m + 1, j, h1, h2 => by
    rw [posS] at h1
    split at h1
    · rename_i h3
      rcases Nat.eq_or_lt_of_le (Nat.le_of_lt_succ h2) with rfl | h4
      · exact h3
      · exact posS_hi m j h1 h4
    · omega
theorem posS_lo {q : Int → Bool} {out : List Int} : ∀ (m : Nat), 0 < posS q out m → q (out.getD (posS q out m - 1) 0) = false
  | 0, h => by simp [posS] at h
  | m + 1, h => by
    rw [posS] at h ⊢
    split
    · rename_i h1; rw [if_pos h1] at h; exact posS_lo m h
    · rename_i h1; simpa using h1
theorem insS_sorted {q : Int → Int → Bool} {out : List Int} {x : Int} (hT : ∀ y ∈ out, ∀ z ∈ out, q x y = false → q y z = false → q x z = false) (hA : ∀ y ∈ out, q x y = true → q y x = false) (h : out.Pairwise fun a b => q b a = false) : (insS (q x) out x).Pairwise fun a b => q b a = false := by
  have hp := posS_le (q x) out out.length
  have hhi := posS_hi (q := q x) (out := out) out.length
  have hlo := posS_lo (q := q x) (out := out) out.length
  unfold insS
  generalize posS (q x) out out.length = p at *
  have h2 := h
  rw [List.pairwise_iff_getElem] at h
  have htk : ∀ a ∈ out.take p, q x a = false := by
    intro a ha
    obtain ⟨i, hi, rfl⟩ := List.mem_take_iff_getElem.1 ha
    have hip : i < p := by omega
    have hlast := hlo (by omega)
    rw [List.getD_eq_getElem?_getD, List.getElem?_eq_getElem (show p - 1 < out.length by omega), Option.getD_some] at hlast
    rcases Nat.eq_or_lt_of_le (show i ≤ p - 1 by omega) with rfl | hlt
    · exact hlast
    · exact hT _ (List.getElem_mem _) _ (List.getElem_mem _) hlast (h i (p - 1) (by omega) (by omega) hlt)
  have hdp : ∀ b ∈ out.drop p, q b x = false := by
    intro b hb
    obtain ⟨i, hi, rfl⟩ := List.mem_drop_iff_getElem.1 hb
    have := hhi (i + p) (by omega) (by omega)
    rw [List.getD_eq_getElem?_getD, List.getElem?_eq_getElem (show i + p < out.length by omega), Option.getD_some] at this
    have e : p + i = i + p := Nat.add_comm _ _
    simp only [e]
    exact hA _ (List.getElem_mem _) this
  rw [List.pairwise_append, List.pairwise_cons]
  rw [← List.take_append_drop p out, List.pairwise_append] at h2
  refine ⟨h2.1, ⟨hdp, h2.2.1⟩, fun a ha b hb => ?_⟩
  rcases List.mem_cons.1 hb with rfl | hb
  · exact htk a ha
  · exact h2.2.2 a ha b hb
theorem isGo_sorted {q : Int → Int → Bool} {l : List Int} (hT : ∀ x ∈ l, ∀ y ∈ l, ∀ z ∈ l, q x y = false → q y z = false → q x z = false) (hA : ∀ x ∈ l, ∀ y ∈ l, q x y = true → q y x = false) : ∀ {m : Nat}, m ≤ l.length → (isGo q l m).Pairwise fun a b => q b a = false
  | 0, _ => List.Pairwise.nil
  | m + 1, hm => by
    have hx : l.getD m 0 ∈ l := by
      rw [List.getD_eq_getElem?_getD, List.getElem?_eq_getElem (show m < l.length by omega), Option.getD_some]; exact List.getElem_mem _
    rw [isGo]
    exact insS_sorted (fun y hy z hz => hT _ hx y (isGo_mem (by omega) y hy) z (isGo_mem (by omega) z hz)) (fun y hy => hA _ hx y (isGo_mem (by omega) y hy)) (isGo_sorted hT hA (by omega))
theorem cross {a b c d e f : Int} (hd : 1 ≤ d) (h1 : a * d ≤ b * c) (h2 : c * f ≤ d * e) (hb : 0 ≤ b) (hf : 0 ≤ f) : a * f ≤ b * e := by
  have x1 : a * d * f ≤ b * c * f := Int.mul_le_mul_of_nonneg_right h1 hf
  have x2 : b * (c * f) ≤ b * (d * e) := Int.mul_le_mul_of_nonneg_left h2 hb
  refine Int.le_of_mul_le_mul_left (a := d) ?_ (by omega)
  have y1 : d * (a * f) = a * d * f := by rw [Int.mul_comm a d, Int.mul_assoc]
  have y2 : d * (b * e) = b * (d * e) := by rw [Int.mul_left_comm]
  have y3 : b * c * f = b * (c * f) := Int.mul_assoc _ _ _
  omega
theorem sAt_ok {l : Lnd} (o : Ok l) {j : Nat} (h : j < l.ss.length) : Sok l.vs (sAt l j) := by
  have hs : l.ss[j]? = some l.ss[j] := List.getElem?_eq_getElem h
  rw [sAt_eq hs]; exact o.ss _ (List.getElem_mem h)
theorem fr_ok {l : Lnd} (o : Ok l) {x : Int} (h : x ∈ frL l l.ss.length) : (1 ≤ (sAt l x.toNat).no ∧ (sAt l x.toNat).no ≤ 1000) ∧ 1 ≤ (sAt l x.toNat).so ∧ (sAt l x.toNat).so ≤ 1000 := by
  obtain ⟨j, hj, rfl, _⟩ := mem_selS.1 h
  have := sAt_ok o hj
  exact ⟨this.no, this.so⟩
theorem ord_sorted {l : Lnd} (o : Ok l) : (ordL l).Pairwise fun a b => ahB l b a = false := by
  refine isGo_sorted (fun x hx y hy z hz h1 h2 => ?_) (fun x hx y hy h => ?_) (Nat.le_refl _)
  · have a := fr_ok o hx
    have b := fr_ok o hy
    have c := fr_ok o hz
    unfold ahB fst2 at *
    simp only [decide_eq_false_iff_not, Int.not_lt] at *
    exact cross b.2.1 h1 h2 (by omega) (by omega)
  · unfold ahB fst2 at *
    simp only [decide_eq_false_iff_not, decide_eq_true_eq, Int.not_lt] at *
    have e1 : (sAt l y.toNat).no * (sAt l x.toNat).so = (sAt l x.toNat).so * (sAt l y.toNat).no := Int.mul_comm _ _
    have e2 : (sAt l y.toNat).so * (sAt l x.toNat).no = (sAt l x.toNat).no * (sAt l y.toNat).so := Int.mul_comm _ _
    omega
theorem ord_le {l : Lnd} (o : Ok l) {i k : Nat} (hik : i ≤ k) (hk : k < (ordL l).length) : (oS l k).no * (oS l i).so ≤ (oS l k).so * (oS l i).no := by
  rcases Nat.eq_or_lt_of_le hik with rfl | h
  · rw [Int.mul_comm]; exact Int.le_refl _
  · have := List.pairwise_iff_getElem.1 (ord_sorted o) i k (by omega) hk h
    unfold oS
    rw [List.getD_eq_getElem?_getD, List.getElem?_eq_getElem hk, List.getD_eq_getElem?_getD, List.getElem?_eq_getElem (show i < (ordL l).length by omega), Option.getD_some, Option.getD_some]
    unfold ahB fst2 at this
    rw [decide_eq_false_iff_not] at this
    omega
theorem mem_insS_len {l : Lnd} {j : Nat} (hj : j < l.ss.length) (hf : freeQ l j = true) : (j : Int) ∈ ordL l := by
  have h : (j : Int) ∈ frL l l.ss.length := mem_selS.2 ⟨j, hj, rfl, hf⟩
  suffices H : ∀ (L : List Int) (q : Int → Int → Bool) (m : Nat), m ≤ L.length → ∀ y, y ∈ L.take m → y ∈ isGo q L m by
    exact H _ _ _ (Nat.le_refl _) _ (by rw [List.take_length]; exact h)
  intro L q m
  induction m with
  | zero => intro _ y hy; simp at hy
  | succ m ih =>
    intro hm y hy
    rw [isGo, insS_mem]
    rw [List.take_add_one, List.getElem?_eq_getElem (show m < L.length by omega), List.mem_append] at hy
    rcases hy with hy | hy
    · exact .inr (ih (by omega) y hy)
    · left
      simp at hy
      rw [hy, List.getD_eq_getElem?_getD, List.getElem?_eq_getElem (show m < L.length by omega), Option.getD_some]
end Go.Proofs.Ytaodhdpopklipaa.Bt

open Go.Vm
namespace Go.Proofs.Ytaodhdpopklipaa.Bt
set_option maxRecDepth 20000
set_option maxHeartbeats 1000000

theorem cut_mem {l : Lnd} {k : Nat} {i : Nat} (h : (i : Int) = cutC l k) : ∃ m, k = m ∧ m < (ordL l).length ∧ (ordL l)[m]? = some (i : Int) := by
  unfold cutC at h
  rcases Nat.lt_or_ge k (ordL l).length with hk | hk
  · refine ⟨k, rfl, hk, ?_⟩
    rw [List.getD_eq_getElem?_getD, List.getElem?_eq_getElem hk, Option.getD_some] at h
    rw [List.getElem?_eq_getElem hk, h]
  · rw [List.getD_eq_getElem?_getD, List.getElem?_eq_none hk, Option.getD_none] at h
    omega
theorem oS_at {l : Lnd} {m i : Nat} {s : Str} (h : (ordL l)[m]? = some (i : Int)) (hs : l.ss[i]? = some s) : oS l m = s := by
  unfold oS
  rw [List.getD_eq_getElem?_getD, h, Option.getD_some, Int.toNat_natCast, sAt_eq hs]
theorem ord_of {l : Lnd} {i : Nat} {s : Str} (hs : l.ss[i]? = some s) (hf : isFree s = true) : ∃ m, m < (ordL l).length ∧ (ordL l)[m]? = some (i : Int) := by
  have hi := (List.getElem?_eq_some_iff.1 hs).1
  have := mem_insS_len (l := l) hi (by unfold freeQ; rw [sAt_eq hs]; exact hf)
  obtain ⟨m, hm, e⟩ := List.getElem_of_mem this
  exact ⟨m, hm, by rw [List.getElem?_eq_getElem hm, e]⟩
theorem mem_free {l : Lnd} {i : Nat} {s : Str} (h : (i : Int) ∈ ordL l) (hs : l.ss[i]? = some s) : isFree s = true := by
  obtain ⟨j, h1, h2, h3⟩ := ord_mem h
  have : i = j := by omega
  subst this
  unfold freeQ at h3
  rw [sAt_eq hs] at h3; exact h3
theorem exL_get {l : Lnd} {f : List Int} {c n w : Int} {i : Nat} {s : Str} {p : Int} (hs : l.ss[i]? = some s) (hp : (exL l f c n w)[i]? = some p) : p = prt l f c n w i := by
  rw [exL_at (List.getElem?_eq_some_iff.1 hs).1] at hp
  exact (Option.some.inj hp).symm
theorem xC_al {l : Lnd} {k : Nat} {n w : Int} (i : Nat) (s : Str) (p : Int) (hs : l.ss[i]? = some s) (hp : (xC l k n w).ps[i]? = some p) : isFree s = true ∨ p = w * (1 - s.ow) := by
  have hp := exL_get hs hp
  unfold prt at hp
  cases hf : isFree s
  · right
    have h1 : ¬ ((i : Int) = cutC l k) := by
      intro h
      obtain ⟨m, _, h2, h3⟩ := cut_mem h
      rw [mem_free (List.mem_of_getElem? h3) hs] at hf; cases hf
    have h2 : ¬ ((i : Int) ∈ (ordL l).take k) := by
      intro h
      rw [mem_free (List.mem_of_mem_take h) hs] at hf; cases hf
    have h3 : freeQ l i = false := by unfold freeQ; rw [sAt_eq hs]; exact hf
    rw [if_neg h1, if_neg h2, h3, cond_false, sAt_eq hs] at hp
    rw [hp, Int.mul_comm]
  · exact .inl rfl
theorem mem_take_at {l : Lnd} {k i : Nat} (h : (i : Int) ∈ (ordL l).take k) : ∃ m, m < k ∧ m < (ordL l).length ∧ (ordL l)[m]? = some (i : Int) := by
  obtain ⟨m, hm, e⟩ := List.mem_take_iff_getElem.1 h
  exact ⟨m, by omega, by omega, by rw [List.getElem?_eq_getElem (by omega), e]⟩
theorem xC_prc {l : Lnd} (o : Ok l) {k : Nat} (hk : k < (ordL l).length) {n w : Int} (hn : 0 ≤ n ∧ n ≤ w) (hw : 1 ≤ w ∧ w ≤ 2000) : Prc l (xC l k n w) (oS l k).so (oS l k).no := by
  refine ⟨xC_ok o k hn hw, xC_al, fun i s p hs hp hf => ?_⟩
  have hp := exL_get hs hp
  have hw0 : (xC l k n w).w = w := rfl
  rw [hw0]
  unfold prt at hp
  split at hp
  · rename_i h
    obtain ⟨m, rfl, h2, h3⟩ := cut_mem h
    rw [oS_at h3 hs]
    have : s.no * s.so = s.so * s.no := Int.mul_comm _ _
    omega
  · rename_i hc
    split at hp
    · rename_i h
      obtain ⟨m, hm, h2, h3⟩ := mem_take_at h
      have := ord_le o (show m ≤ k by omega) hk
      rw [oS_at h3 hs] at this
      have e1 : s.no * (oS l k).so = (oS l k).so * s.no := Int.mul_comm _ _
      have e2 : s.so * (oS l k).no = (oS l k).no * s.so := Int.mul_comm _ _
      omega
    · rename_i h
      have h3 : freeQ l i = true := by unfold freeQ; rw [sAt_eq hs]; exact hf
      rw [h3, cond_true] at hp
      obtain ⟨m, hm, h4⟩ := ord_of hs hf
      have hkm : k ≤ m := by
        rcases Nat.lt_or_ge m k with h5 | h5
        · exact absurd (List.mem_take_iff_getElem.2 ⟨m, by omega, by have := List.getElem?_eq_some_iff.1 h4; exact this.2⟩) h
        · exact h5
      have := ord_le o hkm hm
      rw [oS_at h4 hs] at this
      omega
theorem xK_al {l : Lnd} {k : Nat} (i : Nat) (s : Str) (p : Int) (hs : l.ss[i]? = some s) (hp : (xK l k).ps[i]? = some p) : isFree s = true ∨ p = 1 * (1 - s.ow) := by
  refine xC_al (l := l) (k := k) (n := 0) (w := 1) i s p hs ?_
  show (exL l _ (cutC l k) 0 1)[i]? = some p
  rw [xC_zero]; exact hp
theorem xK_prc {l : Lnd} (o : Ok l) (k : Nat) : ∃ a b, (1 ≤ a ∧ a ≤ 1001) ∧ (1 ≤ b ∧ b ≤ 1001) ∧ Prc l (xK l k) a b := by
  rcases Nat.lt_or_ge k (ordL l).length with hk | hk
  · have h := xC_prc o hk (n := 0) (w := 1) (by omega) (by omega)
    have e : xC l k 0 1 = xK l k := by unfold xC xK; rw [xC_zero]
    rw [e] at h
    obtain ⟨j, A⟩ := at_k hk
    have hs := o.ss _ (List.mem_of_getElem? A.st)
    exact ⟨_, _, ⟨hs.so.1, by have := hs.so; omega⟩, ⟨hs.no.1, by have := hs.no; omega⟩, h⟩
  · refine ⟨1001, 1, by decide, by decide, xK_ok o k, fun i s p hs hp => xK_al i s p hs hp, fun i s p hs hp hf => ?_⟩
    have hp := exL_get hs hp
    obtain ⟨m, hm, h4⟩ := ord_of hs hf
    have hin : (i : Int) ∈ (ordL l).take k := by
      rw [List.take_of_length_le hk]; exact List.mem_of_getElem? h4
    have h1 : ¬ ((i : Int) = -1) := by omega
    unfold prt at hp
    rw [if_neg h1, if_pos hin] at hp
    have := o.ss s (List.mem_of_getElem? hs)
    have h2 := this.no
    have h3 := this.so
    have e : (xK l k).w = 1 := rfl
    rw [e]
    omega
theorem xR_prc {l : Lnd} (o : Ok l) {k n w : Nat} (hk : k < (ordL l).length) (hn : n ≤ w) (hw : 1 ≤ w) (hw2 : w ≤ 2000) : ∃ a b, (1 ≤ a ∧ a ≤ 1001) ∧ (1 ≤ b ∧ b ≤ 1001) ∧ Prc l (xR l k n w) a b := by
  obtain ⟨h1, h2⟩ := red_bd hn hw hw2
  obtain ⟨j, A⟩ := at_k hk
  have hs := o.ss _ (List.mem_of_getElem? A.st)
  exact ⟨_, _, ⟨hs.so.1, by have := hs.so; omega⟩, ⟨hs.no.1, by have := hs.no; omega⟩, xC_prc o hk h1 h2⟩
theorem opt_one {n s a b p q w v : Int} (hp : 0 ≤ p ∧ p ≤ w) (hq : 0 ≤ q ∧ q ≤ v) (h1 : 0 < n * a - s * b → w ≤ p) (h2 : n * a - s * b < 0 → p ≤ 0) (hw : 0 ≤ w) (hv : 0 ≤ v) : ((n * q) * a + (s * (v - q)) * b) * w ≤ ((n * p) * a + (s * (w - p)) * b) * v := by
  have e1 : ((n * q) * a + (s * (v - q)) * b) * w = (n * a - s * b) * (q * w) + s * b * (v * w) := by grind
  have e2 : ((n * p) * a + (s * (w - p)) * b) * v = (n * a - s * b) * (p * v) + s * b * (v * w) := by grind
  rw [e1, e2]
  generalize n * a - s * b = m at *
  have : m * (q * w) ≤ m * (p * v) := by
    rcases Int.lt_trichotomy m 0 with h | h | h
    · have : p = 0 := by have := h2 h; omega
      subst this
      have : 0 ≤ q * w := Int.mul_nonneg hq.1 hw
      have := Int.mul_nonneg (show 0 ≤ -m by omega) this
      have h5 : -m * (q * w) = -(m * (q * w)) := Int.neg_mul _ _
      have h6 : m * (0 * v) = 0 := by simp
      omega
    · subst h; simp
    · have : p = w := by have := h1 h; omega
      subst this
      have : q * p ≤ v * p := Int.mul_le_mul_of_nonneg_right hq.2 hw
      rw [Int.mul_comm p v]
      exact Int.mul_le_mul_of_nonneg_left this (by omega)
  omega
theorem opt_go {a b w v : Int} (hw : 1 ≤ w) (hv : 1 ≤ v) : ∀ (ss : List Str) (ps qs : List Int), ss.length = ps.length → ss.length = qs.length →
    (∀ (i : Nat) s p q, ss[i]? = some s → ps[i]? = some p → qs[i]? = some q → (0 ≤ p ∧ p ≤ w) ∧ (0 ≤ q ∧ q ≤ v) ∧ (isFree s = true ∨ p = w * (1 - s.ow)) ∧ (isFree s = true ∨ q = v * (1 - s.ow)) ∧ (isFree s = true → (0 < s.no * a - s.so * b → w ≤ p) ∧ (s.no * a - s.so * b < 0 → p ≤ 0))) →
    (hN ss qs * a + hS v ss qs * b) * w ≤ (hN ss ps * a + hS w ss ps * b) * v
  | [], [], [], _, _, _ => by simp [hN, hS]
  | [], _ :: _, _, h, _, _ => by cases h
  | _ :: _, [], _, h, _, _ => by cases h
  | [], _, _ :: _, _, h, _ => by cases h
  | _ :: _, _, [], _, h, _ => by cases h
  | s :: ss, p :: ps, q :: qs, h1, h2, h => by
    have ih := opt_go (a := a) (b := b) hw hv ss ps qs (by simpa using h1) (by simpa using h2) (fun i s' p' q' x1 x2 x3 => h (i + 1) s' p' q' (by simpa using x1) (by simpa using x2) (by simpa using x3))
    obtain ⟨g1, g2, g3, g4, g5⟩ := h 0 s p q rfl rfl rfl
    rw [hN, hN, hS, hS]
    have one : ((s.no * q) * a + (s.so * (v - q)) * b) * w ≤ ((s.no * p) * a + (s.so * (w - p)) * b) * v := by
      cases hf : isFree s
      · have e1 : p = w * (1 - s.ow) := by rcases g3 with g | g; rw [hf] at g; cases g; exact g
        have e2 : q = v * (1 - s.ow) := by rcases g4 with g | g; rw [hf] at g; cases g; exact g
        subst e1 e2
        have : ((s.no * (v * (1 - s.ow))) * a + (s.so * (v - v * (1 - s.ow))) * b) * w = ((s.no * (w * (1 - s.ow))) * a + (s.so * (w - w * (1 - s.ow))) * b) * v := by grind
        omega
      · obtain ⟨x1, x2⟩ := g5 hf
        exact opt_one g1 g2 x1 x2 (by omega) (by omega)
    generalize s.no * q = A1 at *
    generalize s.so * (v - q) = A2 at *
    generalize s.no * p = A3 at *
    generalize s.so * (w - p) = A4 at *
    generalize hN ss qs = A5 at *
    generalize hS v ss qs = A6 at *
    generalize hN ss ps = A7 at *
    generalize hS w ss ps = A8 at *
    grind
end Go.Proofs.Ytaodhdpopklipaa.Bt

open Go.Vm
namespace Go.Proofs.Ytaodhdpopklipaa.Bt
set_option maxRecDepth 20000
set_option maxHeartbeats 1000000

structure Alw (l : Lnd) (x : Exc) : Prop where
  ok : XOk l x
  al : ∀ (i : Nat) (s : Str) (p : Int), l.ss[i]? = some s → x.ps[i]? = some p → isFree s = true ∨ p = x.w * (1 - s.ow)
theorem now_alw {l : Lnd} (o : Ok l) : Alw l (nowX l) := by
  refine ⟨now_ok o, fun i s p hs hp => .inr ?_⟩
  have e2 : (nowP l)[i]? = some (1 - s.ow) := by simp [nowP, hs]
  have hp : (nowP l)[i]? = some p := hp
  rw [e2] at hp
  cases hp
  show _ = 1 * (1 - s.ow)
  omega
theorem opt {l : Lnd} {x y : Exc} {a b : Int} (h : Prc l x a b) (k : Alw l y) : (hasN l y * a + hasS l y * b) * x.w ≤ (hasN l x * a + hasS l x * b) * y.w := by
  refine opt_go (by have := h.ok.w; omega) (by have := k.ok.w; omega) _ _ _ h.ok.len.symm k.ok.len.symm fun i s p q h1 h2 h3 => ?_
  exact ⟨h.ok.ps _ (List.mem_of_getElem? h2), k.ok.ps _ (List.mem_of_getElem? h3), h.al i s p h1 h2, k.al i s q h1 h3, h.pr i s p h1 h2⟩
theorem opt_gain {l : Lnd} {x y : Exc} {a b : Int} (h : Prc l x a b) (k : Alw l y) : (gnN l y * a + gnS l y * b) * x.w ≤ (gnN l x * a + gnS l x * b) * y.w := by
  have := opt h k
  unfold gnN gnS
  generalize hasN l (nowX l) = A at *
  generalize hasS l (nowX l) = C at *
  generalize hasN l x = A1 at *
  generalize hasS l x = A2 at *
  generalize hasN l y = A3 at *
  generalize hasS l y = A4 at *
  have e1 : ((A3 - y.w * A) * a + (A4 - y.w * C) * b) * x.w = (A3 * a + A4 * b) * x.w - (A * a + C * b) * (x.w * y.w) := by grind
  have e2 : ((A1 - x.w * A) * a + (A2 - x.w * C) * b) * y.w = (A1 * a + A2 * b) * y.w - (A * a + C * b) * (x.w * y.w) := by grind
  rw [e1, e2]; omega
theorem gn_now {l : Lnd} : gnN l (nowX l) = 0 ∧ gnS l (nowX l) = 0 := by
  have e : (nowX l).w = 1 := rfl
  unfold gnN gnS
  rw [e]; omega
theorem hN_le2 {v : Int} : ∀ {ss : List Str} {ps qs : List Int}, (∀ s ∈ ss, 0 ≤ s.no) → ps.length = ss.length → qs.length = ss.length → (∀ (i : Nat) p q, ps[i]? = some p → qs[i]? = some q → q ≤ v * p) → hN ss qs ≤ v * hN ss ps
  | [], _, _, _, _, _, _ => by simp [hN]
  | s :: ss, [], _, _, h, _, _ => by simp at h
  | s :: ss, _ :: _, [], _, _, h, _ => by simp at h
  | s :: ss, p :: ps, q :: qs, hs, h1, h2, h => by
    have := hN_le2 (v := v) (fun t hm => hs t (List.mem_cons_of_mem _ hm)) (by simpa using h1) (by simpa using h2) (fun i p q hp hq => h (i + 1) p q (by simpa using hp) (by simpa using hq))
    have h0 := Int.mul_le_mul_of_nonneg_left (h 0 p q rfl rfl) (hs s (by simp))
    rw [hN, hN, Int.mul_add, Int.mul_left_comm]; omega
theorem xKn_le {l : Lnd} {y : Exc} (k : Alw l y) (i : Nat) (p q : Int) (hp : (xK l (ordL l).length).ps[i]? = some p) (hq : y.ps[i]? = some q) : q ≤ y.w * p := by
  have hi : i < l.ss.length := by rw [← k.ok.len]; exact (List.getElem?_eq_some_iff.1 hq).1
  have hs : l.ss[i]? = some l.ss[i] := List.getElem?_eq_getElem hi
  have h0 := k.ok.ps _ (List.mem_of_getElem? hq)
  cases hf : isFree l.ss[i]
  · rcases xK_al i _ p hs hp with g | h
    · rw [hf] at g; cases g
    · rcases k.al i _ q hs hq with g | g
      · rw [hf] at g; cases g
      · rw [h, g, Int.one_mul]; exact Int.le_refl _
  · have hp := exL_get hs hp
    obtain ⟨m, hm, h4⟩ := ord_of hs hf
    have hin : (i : Int) ∈ (ordL l).take (ordL l).length := by
      rw [List.take_of_length_le (Nat.le_refl _)]; exact List.mem_of_getElem? h4
    have h1 : ¬ ((i : Int) = -1) := by omega
    unfold prt at hp
    rw [if_neg h1, if_pos hin] at hp
    rw [hp]; omega
theorem xKn_gn {l : Lnd} (o : Ok l) {y : Exc} (k : Alw l y) : gnN l y ≤ allN l * y.w := by
  have hno : ∀ s ∈ l.ss, 0 ≤ s.no := fun s hs => by have := (o.ss s hs).no; omega
  have h1 := hN_le2 (v := y.w) hno (xK_ok o _).len k.ok.len (fun i p q => xKn_le k i p q)
  have e1 : hN l.ss (xK l (ordL l).length).ps = hasN l (xK l (ordL l).length) := rfl
  have e3 : hN l.ss y.ps = hasN l y := rfl
  have e5 : (xK l (ordL l).length).w = 1 := rfl
  unfold allN nK gnN
  rw [e1, e3] at h1
  rw [e5, Int.sub_mul, Int.mul_comm (hasN l (xK l (ordL l).length)), Int.one_mul, Int.mul_comm (hasN l (nowX l))]
  omega
/-! The exchange by which both gain alike. -/
def Cut1 (x : Exc) : Prop := x.w = 1 ∨ ∃ (j : Nat) (p : Int), x.ps[j]? = some p ∧ (0 < p ∧ p < x.w) ∧ ∀ (i : Nat) (q : Int), i ≠ j → x.ps[i]? = some q → q ≤ 0 ∨ x.w ≤ q
theorem xC_cut {l : Lnd} {k : Nat} (hk : k < (ordL l).length) {n w : Int} (hn : 0 < n ∧ n < w) (o : Ok l) : Cut1 (xC l k n w) := by
  obtain ⟨j, A⟩ := at_k hk
  refine .inr ⟨j, n, ?_, hn, fun i q hij hq => ?_⟩
  · show (exL l _ _ n w)[j]? = _
    rw [exL_at A.lt]
    unfold prt
    rw [A.cut, if_pos rfl]
  · have hi : i < l.ss.length := by
      have := (List.getElem?_eq_some_iff.1 hq).1
      have e : (xC l k n w).ps.length = l.ss.length := exL_len _ _ _ _ _
      omega
    have hs : l.ss[i]? = some l.ss[i] := List.getElem?_eq_getElem hi
    have hq := exL_get hs hq
    have hw : (xC l k n w).w = w := rfl
    rw [hw]
    unfold prt at hq
    rw [A.cut, if_neg (by omega)] at hq
    have how := (o.ss _ (List.getElem_mem hi)).ow
    rw [sAt_eq hs] at hq
    split at hq
    · omega
    · cases hf : freeQ l i
      · rw [hf, cond_false] at hq
        rcases how with h | h <;> rw [h] at hq <;> omega
      · rw [hf, cond_true] at hq; omega
structure EvS (l : Lnd) (x : Exc) : Prop where
  prc : ∃ a b, (1 ≤ a ∧ a ≤ 1001) ∧ (1 ≤ b ∧ b ≤ 1001) ∧ Prc l x a b
  eq : gnN l x = gnS l x
  cut : Cut1 x
theorem nKn {l : Lnd} (o : Ok l) : 0 ≤ nK l (ordL l).length ∧ sK l (ordL l).length ≤ 0 := by
  have h1 := xKn_gn o (now_alw o)
  obtain ⟨a, b, ha, hb, hp⟩ := xK_prc o (ordL l).length
  have e1 : gnN l (nowX l) = 0 := gn_now.1
  have ew : (nowX l).w = 1 := rfl
  rw [e1, ew] at h1
  refine ⟨by unfold allN at h1; omega, ?_⟩
  have hso : ∀ s ∈ l.ss, 0 ≤ s.so := fun s hs => by have := (o.ss s hs).so; omega
  have hle := hS_mono (w := 1) hso (nowP_len l) (xK_ok o (ordL l).length).len (fun i p q hp hq => by
    have := xKn_le (now_alw o) i q p hq hp
    rw [ew] at this; omega)
  have e2 : hasS l (xK l (ordL l).length) = hS 1 l.ss (xK l (ordL l).length).ps := rfl
  have e4 : hasS l (nowX l) = hS 1 l.ss (nowP l) := rfl
  have e5 : (xK l (ordL l).length).w = 1 := rfl
  unfold sK gnS
  rw [e5, e2, e4]; omega
theorem evGo_spec {l : Lnd} (o : Ok l) : ∀ (d k : Nat), k + d = (ordL l).length → 0 ≤ sK l k - nK l k → EvS l (evGo l k d)
  | 0, k, hk, h0 => by
    have hk : k = (ordL l).length := by omega
    rw [evGo, hk]
    rw [hk] at h0
    have := nKn o
    exact ⟨xK_prc o _, show nK l _ = sK l _ by omega, .inl rfl⟩
  | d + 1, k, hk, h0 => by
    have hkl : k < (ordL l).length := by omega
    obtain ⟨j, A⟩ := at_k hkl
    have hsok := o.ss _ (List.mem_of_getElem? A.st)
    have q1 := hsok.no
    have q2 := hsok.so
    obtain ⟨n1, n2⟩ := nK_succ hkl
    have hst : stepK l k = (oS l k).no + (oS l k).so := rfl
    rw [evGo]
    split
    · rename_i h1
      obtain ⟨m, hm⟩ : ∃ m : Nat, (m : Int) = sK l k - nK l k := ⟨(sK l k - nK l k).toNat, by omega⟩
      obtain ⟨s, hs⟩ : ∃ s : Nat, (s : Int) = stepK l k := ⟨(stepK l k).toNat, by omega⟩
      rw [show (sK l k - nK l k).toNat = m by omega, show (stepK l k).toNat = s by omega]
      refine ⟨xR_prc o hkl (by omega) (by omega) (by omega), ?_, ?_⟩
      · obtain ⟨g, a, b, hg, ea, eb, e0, f1, f2⟩ := xR_gn (l := l) (k := k) (n := m) (w := s) hkl (by omega)
        rw [f1, f2]
        have ea' : (m : Int) = g * a := by rw [ea]; exact Int.natCast_mul _ _
        have eb' : (s : Int) = g * b := by rw [eb]; exact Int.natCast_mul _ _
        have hG : (g : Int) ≠ 0 := by omega
        have key : (b : Int) * (sK l k - nK l k) = a * ((oS l k).no + (oS l k).so) := by
          rw [← hm, ← hst, ← hs, ea', eb', Int.mul_left_comm, Int.mul_left_comm (a : Int), Int.mul_comm (b : Int)]
        rw [Int.mul_sub, Int.mul_add] at key
        omega
      · rcases Nat.eq_zero_or_pos m with h | h
        · subst h; rw [xR_zero (by omega)]; exact .inl rfl
        · obtain ⟨g, a, b, hg, ea, eb, e0, f1, f2⟩ := xR_gn (l := l) (k := k) (n := m) (w := s) hkl (by omega)
          rw [e0]
          have ha : 0 < a := by
            rcases Nat.eq_zero_or_pos a with h3 | h3
            · rw [h3, Nat.mul_zero] at ea; omega
            · exact h3
          have hab : a < b := by
            have : g * a < g * b := by omega
            exact Nat.lt_of_mul_lt_mul_left this
          exact xC_cut hkl (by omega) o
    · rename_i h1
      exact evGo_spec o d (k + 1) (by omega) (by omega)
theorem ev_spec {l : Lnd} (o : Ok l) : EvS l (evX l) := evGo_spec o _ 0 (by omega) (less0 o)
theorem EvS.nonneg {l : Lnd} {x : Exc} (h : EvS l x) (o : Ok l) : 0 ≤ gnN l x := by
  obtain ⟨a, b, ha, hb, hp⟩ := h.prc
  have := opt_gain hp (now_alw o)
  rw [gn_now.1, gn_now.2, ← h.eq] at this
  have e : (nowX l).w = 1 := rfl
  have e2 : (gnN l x * a + gnN l x * b) * 1 = gnN l x * (a + b) := by grind
  rw [e, e2] at this
  simp only [Int.zero_mul, Int.add_zero] at this
  exact Int.nonneg_of_mul_nonneg_left this (by omega)
end Go.Proofs.Ytaodhdpopklipaa.Bt

open Go.Vm
namespace Go.Proofs.Ytaodhdpopklipaa
set_option maxRecDepth 20000
set_option maxHeartbeats 4000000

theorem told_tru {f : Fil} (h0 : chk f = 0) {t : List Int} (ht : t ∈ tru f.ps) : toldE f t = 0 := by
  obtain ⟨h1, h2⟩ := mem_tru.1 ht
  simp [toldE, hldE, hldB, h0, h1, h2]
theorem osG_len (f : Fil) : (osG f).length ≤ 3 := selS_len _ 3
theorem encF_len (f : Fil) : (encF f).length = 3 := rfl
def encW (p : Int × Int) : List D := [DI p.1, DI p.2]
theorem encW_len (p : Int × Int) : (encW p).length = 2 := rfl
def vFs (l : List Fil) : V := .fs 3 l.length (l.flatMap encF)
def vWs (l : List (Int × Int)) : V := .fs 2 l.length (l.flatMap encW)
theorem vc_SilenceBartered (ns fs ts : List Int) (h : Hp) : VC Try.prog 3 [bytes ns, bytes fs, bytes ts] h (B true) h := by
  obtain ⟨m, sD, ND, m1, m2, m3, cB⟩ := vc_Between ns 0 9 1 5 (by decide) (by decide) (by decide) (by decide)
  obtain ⟨M, rfl⟩ : ∃ M : Nat, m = M := ⟨m.toNat, by omega⟩
  refine VC.bodyC 5 Try.func3 rfl Try.ntmps3 Try.call3 (h.grows_refl) rfl ?_; conv => whnf
  repeat' (first | ((first | refine zs1 ?_ | refine zs2 ?_ | refine zs3 ?_ | refine zs4 ?_ | refine zs5 ?_); conv => whnf) | ((first | apply zi1 | apply zi2 | apply zi3 | apply zi4 | apply zi5) <;> intro _ <;> conv => whnf) | (refine VCall.intro (vc_Of _ _) ?_; conv => whnf) | (refine VCall.intro (cB _ _ rfl) ?_; conv => whnf))
  refine VCode.lp (fun y : Nat × List Fil × (Nat × Int) => [(7, .ptr (.loc 0) 0), (8, .ptr (.loc 1) 0), (9, .ptr (.loc 2) 0), (10, .gl (.loc 3) 3 y.2.1.length), (31, I M), (32, I y.1)])
    (fun y => [deckB ns (ND, sD), deckB fs y.2.2, deckB ts (0, 9), .flat true (y.2.1.flatMap encF)]) (fun y => y.1 ≤ M ∧ y.2.1.length = y.1 ∧ (∀ f ∈ y.2.1, chk f = 0) ∧ y.2.2.1 ≤ 60 * y.1) (fun y => M - y.1) (0, [], (0, 9)) ⟨Nat.zero_le _, rfl, by simp, by decide⟩ ?_ ?_
  · conv => whnf
    refine Retell.turn ⟨[0,1,2,3], 3, [], []⟩ (TurnOk.mk' _ _ [] [] (OutOk.lift _) rfl (by decide) zb trivial trivial rfl) zv zm
  · rintro ⟨k, l, e⟩ ⟨hk, hl, hc, he⟩
    dsimp only at hk hl hc he
    conv => whnf
    refine VIte.dec (fun h3 => ?_) (fun h3 => ?_)
    · obtain ⟨k1, k2, k3, k4, k5⟩ := mFile_ok fs e (papers := 8) (yrs := 4) (by omega) (by omega)
      have cM := fun (i : Vm.Id) (h : Hp) hd => vc_Made fs e 8 4 i h (by omega) (by omega) (by omega) hd
      generalize mFile fs e 8 4 = f at k1 k2 k3 k4 cM
      generalize (mEnd fs e 8 4).d = dE at k5 cM
      conv => whnf
      repeat' (first | ((first | refine zs1 ?_ | refine zs2 ?_ | refine zs3 ?_ | refine zs4 ?_ | refine zs5 ?_); conv => whnf) | ((first | apply zi1 | apply zi2 | apply zi3 | apply zi4 | apply zi5) <;> intro _ <;> conv => whnf) | (refine VCall.intro (cM _ _ rfl) ?_; conv => whnf))
      refine VMem.app1 (l := l) f encF_len rfl rfl rfl rfl rfl (by omega) ?_
      conv => whnf
      repeat' (first | ((first | refine zs1 ?_ | refine zs2 ?_ | refine zs3 ?_ | refine zs4 ?_ | refine zs5 ?_); conv => whnf) | ((first | apply zi1 | apply zi2 | apply zi3 | apply zi4 | apply zi5) <;> intro _ <;> conv => whnf))
      refine LEnd.intro (k + 1, l ++ [f], dE) ⟨by dsimp only; omega, by dsimp only; rw [List.length_append, hl]; rfl, fun g hg => ?_, by dsimp only; omega⟩ (by dsimp only; omega) ?_
      · rcases List.mem_append.1 hg with hg | hg
        · exact hc g hg
        · rw [List.mem_singleton] at hg; rw [hg]; exact k1
      · conv => whnf
        rw [List.length_append]
        refine Retell.turn ⟨[0,1,2,5], 6, [], []⟩ (TurnOk.mk' _ _ [] [] (OutOk.lift _) rfl (by decide) zb trivial trivial rfl) zv zm
    · have hkM : k = M := by dsimp only at h3; omega
      subst hkM
      have hl5 : l.length ≤ 5 := by omega
      conv => whnf
      repeat' (first | ((first | refine zs1 ?_ | refine zs2 ?_ | refine zs3 ?_ | refine zs4 ?_ | refine zs5 ?_); conv => whnf) | ((first | apply zi1 | apply zi2 | apply zi3 | apply zi4 | apply zi5) <;> intro _ <;> conv => whnf))
      have hLf := flat_len encF_len l
      refine VCut.at' 99 [(7, .ptr (.loc 0) 0), (9, .ptr (.loc 1) 0), (10, vFs l), (11, .nilslice)] [deckB ns (ND, sD), deckB ts (0, 9)] ?_ ?_
      · conv => whnf
        refine Retell.turn ⟨[0,2], 4, [(3, l.flatMap encF)], []⟩ (TurnOk.mk' _ _ [(3, l.flatMap encF)] [] (OutOk.lift _) rfl (by decide) zb zf trivial rfl) zv zm
      · conv => whnf
        repeat' (first | ((first | refine zs1 ?_ | refine zs2 ?_ | refine zs3 ?_ | refine zs4 ?_ | refine zs5 ?_); conv => whnf) | ((first | apply zi1 | apply zi2 | apply zi3 | apply zi4 | apply zi5) <;> intro _ <;> conv => whnf))
        refine VCode.lp (fun y : Nat × List (Int × Int) × (Nat × Int) => [(7, .ptr (.loc 0) 0), (9, .ptr (.loc 1) 0), (10, vFs l), (11, .gl (.loc 2) 2 y.2.1.length), (41, I l.length), (42, I y.1)])
          (fun y => [deckB ns y.2.2, deckB ts (0, 9), .flat true (y.2.1.flatMap encW)]) (fun y => y.1 ≤ l.length ∧ y.2.1.length = y.1 ∧ (∀ p ∈ y.2.1, (1 ≤ p.1 ∧ p.1 ≤ 50) ∧ (1 ≤ p.2 ∧ p.2 ≤ 50)) ∧ y.2.2.1 ≤ 10 + 2 * y.1) (fun y => l.length - y.1) (0, [], (ND, sD)) ⟨Nat.zero_le _, rfl, by simp, by dsimp only; omega⟩ ?_ ?_
        · conv => whnf
          refine Retell.turn ⟨[0,1,2], 2, [], []⟩ (TurnOk.mk' _ _ [] [] (OutOk.lift _) rfl (by decide) zb trivial trivial rfl) zv zm
        · rintro ⟨j, ws, ⟨N, sd⟩⟩ ⟨hj, hw, hwb, hN⟩
          dsimp only at hj hw hwb hN
          conv => whnf
          refine VIte.dec (fun h4 => ?_) (fun h4 => ?_)
          · obtain ⟨a, s1, N1, a1, a2, a3, cA⟩ := vc_Between ns N sd 1 50 (by omega) (by decide) (by decide) (by decide)
            obtain ⟨b, s2, N2, b1, b2, b3, cC⟩ := vc_Between ns N1 s1 1 50 (by omega) (by decide) (by decide) (by decide)
            conv => whnf
            repeat' (first | ((first | refine zs1 ?_ | refine zs2 ?_ | refine zs3 ?_ | refine zs4 ?_ | refine zs5 ?_); conv => whnf) | ((first | apply zi1 | apply zi2 | apply zi3 | apply zi4 | apply zi5) <;> intro _ <;> conv => whnf) | (refine VCall.intro (cA _ _ rfl) ?_; conv => whnf) | (refine VCall.intro (cC _ _ rfl) ?_; conv => whnf))
            refine VMem.app1 (l := ws) (a, b) encW_len rfl rfl rfl rfl rfl (by omega) ?_
            conv => whnf
            repeat' (first | ((first | refine zs1 ?_ | refine zs2 ?_ | refine zs3 ?_ | refine zs4 ?_ | refine zs5 ?_); conv => whnf) | ((first | apply zi1 | apply zi2 | apply zi3 | apply zi4 | apply zi5) <;> intro _ <;> conv => whnf))
            refine LEnd.intro (j + 1, ws ++ [(a, b)], (N2, s2)) ⟨by dsimp only; omega, by dsimp only; rw [List.length_append, hw]; rfl, fun p hp => ?_, by dsimp only; omega⟩ (by dsimp only; omega) ?_
            · rcases List.mem_append.1 hp with hp | hp
              · exact hwb p hp
              · rw [List.mem_singleton] at hp; rw [hp]; exact ⟨⟨a1, a2⟩, ⟨b1, b2⟩⟩
            · conv => whnf
              rw [List.length_append]
              refine Retell.turn ⟨[0,1,4], 5, [], []⟩ (TurnOk.mk' _ _ [] [] (OutOk.lift _) rfl (by decide) zb trivial trivial rfl) zv zm
          · have hjl : j = l.length := by dsimp only at h4; omega
            subst hjl
            conv => whnf
            repeat' (first | ((first | refine zs1 ?_ | refine zs2 ?_ | refine zs3 ?_ | refine zs4 ?_ | refine zs5 ?_); conv => whnf) | ((first | apply zi1 | apply zi2 | apply zi3 | apply zi4 | apply zi5) <;> intro _ <;> conv => whnf))
            have hLw := flat_len encW_len ws
            refine VCode.lp (fun y : Nat × (Nat × Int) => [(9, .ptr (.loc 0) 0), (10, vFs l), (11, vWs ws), (53, I y.1)]) (fun y => [deckB ts y.2]) (fun y => y.1 ≤ 3 ∧ y.2.1 ≤ 80 * y.1) (fun y => 3 - y.1) (0, (0, 9)) ⟨by decide, by decide⟩ ?_ ?_
            · conv => whnf
              refine Retell.turn ⟨[1], 3, [(2, ws.flatMap encW)], []⟩ (TurnOk.mk' _ _ [(2, ws.flatMap encW)] [] (OutOk.lift _) rfl (by decide) zb zf trivial rfl) zv zm
            · rintro ⟨r, e⟩ ⟨hr, he⟩
              dsimp only at hr he
              conv => whnf
              refine VIte.dec (fun h5 => ?_) (fun h5 => ?_)
              · conv => whnf
                repeat' (first | ((first | refine zs1 ?_ | refine zs2 ?_ | refine zs3 ?_ | refine zs4 ?_ | refine zs5 ?_); conv => whnf) | ((first | apply zi1 | apply zi2 | apply zi3 | apply zi4 | apply zi5) <;> intro _ <;> conv => whnf))
                refine VCode.lp (fun y : Nat × List Bt.Str × (Nat × Int) => [(9, .ptr (.loc 0) 0), (10, vFs l), (11, vWs ws), (12, .ptr (.loc 1) 0), (53, I r), (55, vFs l), (56, I l.length), (57, I y.1)]) (fun y => [deckB ts y.2.2, .cells true [.gl (.loc 2) 4 y.1, .nilslice], .flat true (y.2.1.flatMap Bt.encT)]) (fun y => y.1 ≤ l.length ∧ y.2.1.length = y.1 ∧ (∀ s ∈ y.2.1, Bt.Sok [] s) ∧ y.2.2.1 ≤ 80 * r + 16 * y.1) (fun y => l.length - y.1) (0, [], e) ⟨Nat.zero_le _, rfl, by simp, by dsimp only; omega⟩ ?_ ?_
                · conv => whnf
                  refine Retell.turn ⟨[0,1,2], 2, [], []⟩ (TurnOk.mk' _ _ [] [] (OutOk.lift _) rfl (by decide) zb trivial trivial rfl) zv zm
                · rintro ⟨i, ss, e⟩ ⟨hi, hs, hso, he⟩
                  dsimp only at hi hs hso he
                  conv => whnf
                  refine VIte.dec (fun h6 => ?_) (fun h6 => ?_)
                  · have hf : l[i]? = some l[i] := List.getElem?_eq_getElem (by omega)
                    have hcf := hc l[i] (List.getElem_mem (by omega))
                    have hp : ws[i]? = some (ws[i]'(by omega)) := List.getElem?_eq_getElem (by omega)
                    have hpb := hwb (ws[i]'(by omega)) (List.getElem_mem (by omega))
                    generalize l[i] = f at hf hcf
                    generalize ws[i]'(by omega) = p at hp hpb
                    have hn16 := (chk_zero hcf).2.2.1
                    have cT := fun (i : Vm.Id) (h : Hp) hd => vc_True ts e f i h (by omega) hcf hd
                    obtain ⟨t1, t2⟩ := tIt_tru ts e hcf
                    generalize tIt ts f.ps e = X at cT t1 t2
                    obtain ⟨t, dT⟩ := X
                    dsimp only at cT t1 t2
                    have hln := (mem_tru.1 t1).1
                    have ht := told_tru hcf t1
                    have c1 := fun h => vc_Owner f t h (by omega) (by omega)
                    rw [if_pos ht, ht] at c1
                    have c2 := fun h => vc_Owners_ok f h hcf
                    have c3 := fun h => vc_Contains (osG f) (own f t).1 h (by have := osG_len f; omega)
                    rw [decide_eq_true (own_osG hcf t1)] at c3
                    have hor := own_rng hcf t1
                    generalize (own f t).1 = ow at c1 c3 hor
                    generalize osG f = O at c2 c3
                    obtain ⟨ow2, hw2⟩ : ∃ q : Int, q = if ow = 2 then 1 else ow := ⟨_, rfl⟩
                    have how : ow2 = 0 ∨ ow2 = 1 := by rw [hw2]; split <;> omega
                    conv => whnf
                    repeat' (first | ((first | refine zs1 ?_ | refine zs2 ?_ | refine zs3 ?_ | refine zs4 ?_ | refine zs5 ?_); conv => whnf) | ((first | apply zi1 | apply zi2 | apply zi3 | apply zi4 | apply zi5) <;> intro _ <;> conv => whnf) | (refine VAny.ix encF_len i rfl rfl hf ?_; conv => whnf))
                    refine VDraw.go [(0, 3)] (by kernel_rfl) (by kernel_rfl) ?_
                    conv => whnf
                    repeat' (first | ((first | refine zs1 ?_ | refine zs2 ?_ | refine zs3 ?_ | refine zs4 ?_ | refine zs5 ?_); conv => whnf) | ((first | apply zi1 | apply zi2 | apply zi3 | apply zi4 | apply zi5) <;> intro _ <;> conv => whnf) | (refine VCall.intro (cT _ _ rfl) ?_; conv => whnf) | (refine VCall.intro (c1 _) ?_; conv => whnf) | (refine VCall.intro (c2 _) ?_; conv => whnf) | (refine VCall.intro (c3 _) ?_; conv => whnf))
                    all_goals try (rename_i hz; exact absurd rfl hz)
                    all_goals (
                      rename_i hq
                      refine VDraw.go [] (by kernel_rfl) (by kernel_rfl) ?_
                      conv => whnf
                      repeat' (first | ((first | refine zs1 ?_ | refine zs2 ?_ | refine zs3 ?_ | refine zs4 ?_ | refine zs5 ?_); conv => whnf) | ((first | apply zi1 | apply zi2 | apply zi3 | apply zi4 | apply zi5) <;> intro _ <;> conv => whnf) | (refine VAny.ix encW_len i rfl rfl hp ?_; conv => whnf) | (refine VAny.ix (l := [p.1, p.2]) encI_len 0 rfl rfl rfl ?_; conv => whnf) | (refine VAny.ix (l := [p.1, p.2]) encI_len 1 rfl rfl rfl ?_; conv => whnf)))
                    · rw [if_pos hq] at hw2
                      subst hw2
                      refine VMem.app1 (l := ss) ⟨1, p.1, p.2, -1⟩ Bt.encT_len rfl rfl rfl hs.symm rfl (by omega) ?_
                      conv => whnf
                      repeat' (first | ((first | refine zs1 ?_ | refine zs2 ?_ | refine zs3 ?_ | refine zs4 ?_ | refine zs5 ?_); conv => whnf) | ((first | apply zi1 | apply zi2 | apply zi3 | apply zi4 | apply zi5) <;> intro _ <;> conv => whnf))
                      refine LEnd.intro (i + 1, ss ++ [⟨1, p.1, p.2, -1⟩], dT) ⟨by dsimp only; omega, by dsimp only; rw [List.length_append, hs]; rfl, fun s hs2 => ?_, by dsimp only; omega⟩ (by dsimp only; omega) ?_
                      · rcases List.mem_append.1 hs2 with hs2 | hs2
                        · exact hso s hs2
                        · rw [List.mem_singleton] at hs2; rw [hs2]
                          exact ⟨how, by dsimp only; omega, by dsimp only; omega, .inl rfl⟩
                      · conv => whnf
                        refine Retell.turn ⟨[0,1,5], 6, [], []⟩ (TurnOk.mk' _ _ [] [] (OutOk.lift _) rfl (by decide) zb trivial trivial rfl) zv zm
                    · rw [if_neg hq] at hw2
                      subst hw2
                      refine VMem.app1 (l := ss) ⟨ow2, p.1, p.2, -1⟩ Bt.encT_len rfl rfl rfl hs.symm rfl (by omega) ?_
                      conv => whnf
                      repeat' (first | ((first | refine zs1 ?_ | refine zs2 ?_ | refine zs3 ?_ | refine zs4 ?_ | refine zs5 ?_); conv => whnf) | ((first | apply zi1 | apply zi2 | apply zi3 | apply zi4 | apply zi5) <;> intro _ <;> conv => whnf))
                      refine LEnd.intro (i + 1, ss ++ [⟨ow2, p.1, p.2, -1⟩], dT) ⟨by dsimp only; omega, by dsimp only; rw [List.length_append, hs]; rfl, fun s hs2 => ?_, by dsimp only; omega⟩ (by dsimp only; omega) ?_
                      · rcases List.mem_append.1 hs2 with hs2 | hs2
                        · exact hso s hs2
                        · rw [List.mem_singleton] at hs2; rw [hs2]
                          exact ⟨how, by dsimp only; omega, by dsimp only; omega, .inl rfl⟩
                      · conv => whnf
                        refine Retell.turn ⟨[0,1,5], 6, [], []⟩ (TurnOk.mk' _ _ [] [] (OutOk.lift _) rfl (by decide) zb trivial trivial rfl) zv zm
                  · have hil : i = l.length := by dsimp only at h6; omega
                    subst hil
                    have hLs : (ss.flatMap Bt.encT).length = l.length * 4 := by rw [flat_len Bt.encT_len, hs]
                    have o : Bt.Ok ⟨ss, []⟩ := ⟨by dsimp only; omega, by simp, by simp, hso⟩
                    have E := Bt.ev_spec o
                    obtain ⟨a0, b0, ha0, hb0, P0⟩ := E.prc
                    have ox := P0.ok
                    have hg0 := E.nonneg o
                    have heq := E.eq
                    have cE := fun h => Bt.vc_Even_ok ⟨ss, []⟩ h o
                    have cG := fun h => Bt.vc_Gains_ok ⟨ss, []⟩ (Bt.evX ⟨ss, []⟩) h o ox
                    rw [← heq] at cG
                    generalize Bt.gnN ⟨ss, []⟩ (Bt.evX ⟨ss, []⟩) = G at cG hg0
                    clear P0 E heq
                    generalize Bt.evX ⟨ss, []⟩ = x at cE cG ox
                    have eV : Bt.vL ⟨ss, []⟩ = .agg [.fs 4 l.length (ss.flatMap Bt.encT), .fs 1 0 []] := by unfold Bt.vL Bt.strs; rw [hs]; rfl
                    rw [eV] at cE cG
                    conv => whnf
                    repeat' (first | ((first | refine zs1 ?_ | refine zs2 ?_ | refine zs3 ?_ | refine zs4 ?_ | refine zs5 ?_); conv => whnf) | ((first | apply zi1 | apply zi2 | apply zi3 | apply zi4 | apply zi5) <;> intro _ <;> conv => whnf))
                    refine VCall.intro (VC.give (args' := [.agg [.fs 4 l.length (ss.flatMap Bt.encT), .fs 1 0 []]]) (loc' := [deckB ts e, .cells true [.fs 4 l.length (ss.flatMap Bt.encT), .nilslice], .dead]) [(2, ss.flatMap Bt.encT)] [] (OutOk.lift _) zb zf (by exact FmAll.nil) rfl zv (cE _)) ?_
                    conv => whnf
                    repeat' (first | ((first | refine zs1 ?_ | refine zs2 ?_ | refine zs3 ?_ | refine zs4 ?_ | refine zs5 ?_); conv => whnf) | ((first | apply zi1 | apply zi2 | apply zi3 | apply zi4 | apply zi5) <;> intro _ <;> conv => whnf))
                    refine VCall.intro (VC.give (args' := [.agg [.fs 4 l.length (ss.flatMap Bt.encT), .fs 1 0 []], Bt.vX x]) (loc' := [deckB ts e, .cells true [.fs 4 l.length (ss.flatMap Bt.encT), .nilslice], .dead, .flat true (Bt.encX x)]) [] [] (OutOk.lift _) zb zf (by exact FmAll.nil) rfl zv (cG _)) ?_
                    conv => whnf
                    repeat' (first | ((first | refine zs1 ?_ | refine zs2 ?_ | refine zs3 ?_ | refine zs4 ?_ | refine zs5 ?_); conv => whnf) | ((first | apply zi1 | apply zi2 | apply zi3 | apply zi4 | apply zi5) <;> intro _ <;> conv => whnf))
                    all_goals try (rename_i hz; exact absurd rfl hz)
                    all_goals try (exfalso; omega)
                    refine LEnd.intro (r + 1, e) ⟨by dsimp only; omega, by dsimp only; omega⟩ (by dsimp only; omega) ?_
                    conv => whnf
                    refine Retell.turn ⟨[0], 4, [], []⟩ (TurnOk.mk' _ _ [] [] (OutOk.lift _) rfl (by decide) zb trivial trivial rfl) zv zm
              · conv => whnf
                repeat' (first | ((first | refine zs1 ?_ | refine zs2 ?_ | refine zs3 ?_ | refine zs4 ?_ | refine zs5 ?_); conv => whnf) | ((first | apply zi1 | apply zi2 | apply zi3 | apply zi4 | apply zi5) <;> intro _ <;> conv => whnf) | (refine VCall.intro (vc_awake _) ?_; conv => whnf))
                exact VOut.same rfl
end Go.Proofs.Ytaodhdpopklipaa

open Go.Vm
namespace Go.Proofs.Ytaodhdpopklipaa
open Go.ChangeShapes Go.WideShapes Go.ChangeAt Go.RowKit

def dU (l : List Int) : D := .sl 1 l.length (l.flatMap encU)
theorem openU : OpenV Try.prog 22 dU := OpenV.slice Try.underlying22 (Opens.slice Try.underlying22 encU_len (by kernel_rfl) (by decide) (Opens.int Try.underlying5))
theorem ownKn : ownKnob Try.prog.godebug = none := by kernel_rfl
theorem laidOut : laidOutB Try.prog = true := by kernel_rfl
theorem open3p : OpenAll Try.prog Try.f3.params.toList (fun x : List Int × List Int × List Int × Unit => [dU x.1, dU x.2.1, dU x.2.2.1]) := by
  rw [Try.params3]
  exact OpenAll.cons openU (OpenAll.cons openU (OpenAll.cons openU (OpenAll.nil)))
set_option maxRecDepth 100000 in
theorem contract3 (H : Type) (enc : TypeId × Value → H) (W : World) (base : Nat) (args : Array Value) (ds gs : List (DataW H)) (before : List MemPlace)
    (hval : ∀ (j : Nat) t v, Try.f3.params[j]? = some t → args[j]? = some v → Value.okWide Try.prog W .any base t v)
    (hW : DataW.Whole enc Try.prog Try.f3.params.toList Rows.silenceBarteredSpec.vars false W args.toList ds gs before) :
    Calls Try.prog 3 args W fun e W' => ∃ v, e = .returned v ∧ Rows.silenceBarteredSpec.post enc Try.prog Try.f3 false true false false W args v W' := by
  refine contract_of_vc open3p (fun g => vc_SilenceBartered g.1 g.2.1 g.2.2.1 Hp.bare) laidOut ?_ (tb := 4) (by kernel_rfl) Try.underlying4 rfl ?_ hval hW
  · rw [Try.params3]
    intro t ht
    simp only [List.mem_cons, List.not_mem_nil, or_false] at ht
    rcases ht with rfl | rfl | rfl
    all_goals exact ⟨by kernel_rfl, of_decide_eq_true (by kernel_rfl)⟩
  · intro H dd hl
    rw [Try.params3] at hl
    match dd, hl with
    | [d0, d1, d2], _ => rfl
set_option maxRecDepth 100000 in
theorem lifted3 (os : Os) (started : os.Started) (H : Type) (enc : TypeId × Value → H) :
    ReturnsInHanded {} Try.checked os 3 .any (Rows.silenceBarteredSpec.pre6 enc Try.prog Try.f3 Rows.silenceBarteredRow.domain false) (Rows.silenceBarteredSpec.post enc Try.prog Try.f3 false true false false) := by
  refine returnsInHanded_of_change (C := Try.checked) ownKn started (by kernel_rfl) Try.func3
    (ChangeSpec.witness6 (enc := enc) (C := Try.checked) false ⟨#[], #[.slice none 0 0, .slice none 0 0, .slice none 0 0], []⟩ 8 (by kernel_rfl) (by kernel_rfl) (by kernel_rfl) (by kernel_rfl)) ?_
  intro W base args ds gs before hval hW _ _
  exact contract3 H enc W base args ds gs before hval hW
theorem silenceBartered_said : Rows.SilenceBarteredSaid :=
  OpenClaim.holds_of_wide 3 Try.f3 rfl rfl rfl rfl rfl rfl rfl ⟨rfl, rfl, rfl, rfl, rfl⟩ rfl rfl rfl rfl rfl (by kernel_rfl) Try.func3 (by kernel_rfl)
    (of_decide_eq_true (by kernel_rfl)) (by unfold Func.isWrapper; first | (rw [if_pos (by decide +kernel)]; kernel_rfl) | (rw [if_neg (by decide +kernel)]; exact ⟨rfl, rfl⟩))
    (fun os started H enc _ => lifted3 os started H enc)
end Go.Proofs.Ytaodhdpopklipaa

